/-
  The reference's Wrong: of the reads those that tell another value than they should.
-/
import Derived.Test.YtfigoeoimefngaaWqC
namespace Go.Proofs.Ytfigoeoimefngaa
open Go.RowKit Go.Maps Go.Shelf

theorem range_want {w : World} {g o : Nat} {f : Ft} (hf : f.ok) (h : w.rangeAt g o f.cs) : w.rangeAt g (o + 5) (ivs f.want) := fun j v hv => by
  have hj : j < 8 := by have := (List.getElem?_eq_some_iff.1 hv).1; simpa [ivs_len, hf.want] using this
  have : f.cs[5 + j]? = some v := by
    rw [← Ft.cs_want hf, List.getElem?_take, if_pos hj, List.getElem?_drop] at hv
    exact hv
  have := h (5 + j) v this
  rwa [← Nat.add_assoc] at this
theorem range_got {w : World} {g o : Nat} {f : Ft} (hf : f.ok) (h : w.rangeAt g o f.cs) : w.rangeAt g (o + 13) (ivs f.got) := fun j v hv => by
  have hj : j < 8 := by have := (List.getElem?_eq_some_iff.1 hv).1; simpa [ivs_len, hf.got] using this
  have : f.cs[13 + j]? = some v := by
    rw [← Ft.cs_got hf, List.getElem?_take, if_pos hj, List.getElem?_drop] at hv
    exact hv
  have := h (13 + j) v this
  rwa [← Nat.add_assoc] at this
theorem readsF_len {L : List Sn} (hL : L.length ≤ 1048576) : (readsF L).length ≤ 1099511627776 := by
  have h2 : (readsF L).length ≤ (plsD L).length := rdF_len _ _
  have h3 : (plsD L).length ≤ (decL L).length * L.length := flatMap_len _ _ _ (fun x _ => Nat.le_trans (pls_len _ _) (ev_len L))
  have h4 := decL_len L
  have h5 : (decL L).length * L.length ≤ 1048576 * 1048576 := Nat.mul_le_mul (by omega) hL
  omega
theorem wrongF_reads (L : List Sn) : ((readsF L).map (kdF L)).filter badF = wrongF L := by
  unfold wrongF
  rw [List.filter_map]
  rfl
theorem reads_told (L : List Sn) (n : Nat) (hn : L.length = n) (hL : n ≤ 1048576) (hok : ∀ x ∈ L, x.n.ok ∧ x.wk.ok) (a : Option Addr) (cap : Nat) (w : World) (hr : Rd w a (rowsOf Sn.cs L)) :
    Calls Try.prog 33 #[.slice a n cap] w fun e w' => Grows w w' ∧ ∃ av cv rs ec, e = .returned (.tuple #[.slice av rs.length cv, .int .i64 ec]) ∧ Rd w' av (rowsOf Ft.cs rs) ∧ (∀ f ∈ rs, f.ok) ∧ rs.length ≤ 1099511627776 ∧
      ((mayB L = true ∧ rs = (readsF L).map (kdF L) ∧ ec = 0) ∨ (mayB L = false ∧ rs = [] ∧ ec = 2)) := by
  refine (reads32_any L n hn hL hok a cap w hr).mono ?_
  rintro e w' ⟨hg, ⟨hm, rfl⟩ | ⟨hm, v, rfl, ho⟩⟩
  · exact ⟨hg, none, 0, [], 2, rfl, Rd.nil _ _, (fun f h => by cases h), Nat.zero_le _, .inr ⟨hm, rfl, rfl⟩⟩
  · obtain ⟨av, cv, rfl, _, _, _⟩ := own_slice ho
    refine ⟨hg, av, cv, _, 0, rfl, Rd.own ho, fun f hf => ?_, by rw [List.length_map]; exact readsF_len (by omega), .inl ⟨hm, rfl, rfl⟩⟩
    obtain ⟨f0, h0, rfl⟩ := List.mem_map.1 hf
    have := (readsF_ok hm hok h0).ok
    exact ⟨this.want, this.got⟩
theorem filt_more {fs : List Ft} {k : Nat} {f : Ft} (hf : fs[k]? = some f) : (fs.take (k + 1)).filter badF = (fs.take k).filter badF ++ (if badF f = true then [f] else []) := by
  rw [List.take_add_one, hf, Option.toList_some, List.filter_append]
  cases h : badF f <;> simp [h]
set_option maxRecDepth 100000 in
set_option maxHeartbeats 8000000 in
theorem refwrong_any (L : List Sn) (n : Nat) (hn : L.length = n) (hL : n ≤ 1048576) (hok : ∀ x ∈ L, x.n.ok ∧ x.wk.ok) (a : Option Addr) (cap : Nat) (w : World) (hr : Rd w a (rowsOf Sn.cs L)) :
    Calls Try.prog 21 #[.slice a n cap] w (WrongP L w) := by
  have hfz := fz_zero
  have HRT := Lib.hid (reads_told L n hn hL hok a cap w hr)
  clear hr hn hL hok
  go_enter Try.func21, Try.ntmps21
  go_wp2_with fail
  refine HRT.out.mono ?_
  clear HRT
  rintro e w2 ⟨hg2, av, cv, rs, ec, rfl, hrd, hok, hlen, hcase⟩
  have HG2 := Lib.hid hg2
  have HRD := Lib.hid hrd
  have HOK := Lib.hid hok
  have HCS := Lib.hid hcase
  have HLN := Lib.hid hlen
  obtain ⟨i0, hi0, hz0, hz1, hz2⟩ := info_parts info_ft
  clear hg2 hrd hok hcase hlen
  obtain ⟨S0, hS0⟩ : ∃ S0, w2.heap.size = S0 := ⟨_, rfl⟩
  have HS0 := Lib.hid hS0
  clear hS0
  go_wp2_with fail
  go_loopg [6, 7] rs.length (fun gk v6 v7 wr => ∃ k : Nat, gk + k = rs.length ∧ v7 = .int .i64 (k : Int) ∧ Grows w2 wr ∧ wr.ownsRow S0 34 28 v6 ((rs.take k).filter badF).length (rowsOf Ft.cs ((rs.take k).filter badF)) ∧ (k = 0 → v6 = .slice none 0 0))
  case atStart => exact ⟨0, by omega, rfl, Grows.refl _, World.ownsRow_nil _ _ _ _, fun _ => rfl⟩
  case round =>
    obtain ⟨k, hk, rfl, hg, ho, hnil⟩ := hrel
    have HNIL := Lib.hid hnil
    have HGW := Lib.hid hg
    have HOW := Lib.hid ho
    clear hg ho hnil
    by_cases hlt : k < rs.length
    · have hfk : rs[k]? = some rs[k] := List.getElem?_eq_getElem hlt
      have HFO := Lib.hid (HOK.out _ (List.mem_of_getElem? hfk))
      obtain ⟨g, off, rfl, hgw, hA⟩ := ld_fault (HRD.out.grows HGW.out) HOK.out hfk
      generalize rs[k] = f at *
      have HFK := Lib.hid hfk
      have HA : Hid (wr.rangeAt g (off + k * 28) f.cs) := Lib.hid hA
      have HGB := Lib.hid hgw
      have HW5 : Hid (∀ W, Grows wr W → (loadVar 31 ⟨g, off + k * 28 + 5, none⟩).run Try.prog W = .ok (.agg (ivs f.want).toArray) W) := Lib.hid (ld_range (range_want HFO.out hA) hgw Try.underlying31 rfl (by rw [ivs_len, HFO.out.want]; exact info_val8))
      have HW13 : Hid (∀ W, Grows wr W → (loadVar 31 ⟨g, off + k * 28 + 13, none⟩).run Try.prog W = .ok (.agg (ivs f.got).toArray) W) := Lib.hid (ld_range (range_got HFO.out hA) hgw Try.underlying31 rfl (by rw [ivs_len, HFO.out.got]; exact info_val8))
      have he : ∀ W, (Op.equalIn 10000 31 (.agg (ivs f.want).toArray) (.agg (ivs f.got).toArray)).run Try.prog W = .ok (decide (f.want = f.got)) W := fun W => eq8_any W f.want f.got HFO.out.want HFO.out.got
      have hlt' : (k : Int) < (rs.length : Int) := by omega
      have hk0 : (0 : Int) ≤ (k : Int) := by omega
      have hwr : IntKind.i64.wrap ((k : Int) + 1) = (k : Int) + 1 := IntWalk.i64_in _ (by have := HLN.out; omega)
      clear hA hfk hgw
      by_cases hwg : f.want = f.got
      · have hd : decide (f.want = f.got) = true := by simp [hwg]
        have HBF : Hid (badF f = false) := Lib.hid (by unfold badF; simp [hwg])
        rw [hd] at he
        clear hwg hd
        go_upto_region 6 with (fail)
        refine wp_region_class wr (by kernel_rfl) (by kernel_rfl) (Grows.refl _) ?_
        repeat (first
          | go_big_quiet_skip
          | (go_big_quiet_want; first
              | ((with_reducible refine quiet_load (b := g) (off := off + k * 28 + 5) ?_ HW5.out ?_); rfl; (simp only [Act.put, List.setIfInBounds_toArray, List.set_cons_zero, List.set_cons_succ]); go_big_quiet_on)
              | ((with_reducible refine quiet_load (b := g) (off := off + k * 28 + 13) ?_ HW13.out ?_); rfl; (simp only [Act.put, List.setIfInBounds_toArray, List.set_cons_zero, List.set_cons_succ]); go_big_quiet_on)
              | (go_big_quiet_op; (first
                  | go_big_quiet_on
                  | (refine ⟨_, fun _ _ => rfl, ?_⟩; go_big_quiet_on)))))
        refine wpQuiet_nil ?_
        intro w6 hC6
        have HC6 := Lib.hid (HGW.out.trans hC6)
        have HO6 := Lib.hid (own_grows HOW.out hC6)
        clear hC6
        go_wp2_with fail
        go_roundg (gk - 1)
        case measure => omega
        refine ⟨k + 1, by omega, rfl, HC6.out, ?_, fun h => by omega⟩
        rw [filt_more HFK.out, HBF.out]
        simpa using HO6.out
      · have hd : decide (f.want = f.got) = false := by simp [hwg]
        have HBF : Hid (badF f = true) := Lib.hid (by unfold badF; simp [hwg])
        rw [hd] at he
        clear hwg hd
        go_upto_region 6 with (fail)
        refine wp_region_class wr (by kernel_rfl) (by kernel_rfl) (Grows.refl _) ?_
        repeat (first
          | go_big_quiet_skip
          | (go_big_quiet_want; first
              | ((with_reducible refine quiet_load (b := g) (off := off + k * 28 + 5) ?_ HW5.out ?_); rfl; (simp only [Act.put, List.setIfInBounds_toArray, List.set_cons_zero, List.set_cons_succ]); go_big_quiet_on)
              | ((with_reducible refine quiet_load (b := g) (off := off + k * 28 + 13) ?_ HW13.out ?_); rfl; (simp only [Act.put, List.setIfInBounds_toArray, List.set_cons_zero, List.set_cons_succ]); go_big_quiet_on)
              | (go_big_quiet_op; (first
                  | go_big_quiet_on
                  | (refine ⟨_, fun _ _ => rfl, ?_⟩; go_big_quiet_on)))))
        refine wpQuiet_nil ?_
        intro w6 hC6
        have HC6 := Lib.hid (HGW.out.trans hC6)
        obtain ⟨FSQ, hFS⟩ : ∃ FSQ, (rs.take k).filter badF = FSQ := ⟨_, rfl⟩
        have HFS := Lib.hid hFS
        have HFL : Hid (FSQ.length ≤ 1099511627776) := Lib.hid (by rw [← hFS]; have h1 := List.length_filter_le badF (rs.take k); have h2 : (rs.take k).length ≤ rs.length := (by rw [List.length_take]; omega); have := HLN.out; omega)
        have ho := HOW.out
        rw [hFS] at ho
        have HRF : Hid (w6.rangeAt g (off + k * 28) f.cs) := Lib.hid (fun j v hv => (hC6.cell g _ HGB.out).trans (HA.out j v hv))
        have HIF : Hid ((Try.prog.info? 34).map (·.size) = some f.cs.length) := Lib.hid (by rw [Ft.cs_len HFO.out]; exact info_fault)
        have HSI : Hid (i0.size = f.cs.toArray.size) := Lib.hid (by rw [hz1, List.size_toArray, Ft.cs_len HFO.out])
        have HPO : Hid (0 < f.cs.toArray.size) := Lib.hid (by rw [List.size_toArray, Ft.cs_len HFO.out]; omega)
        have HSM : Hid (f.cs.toArray.size ≤ 1000) := Lib.hid (by rw [List.size_toArray, Ft.cs_len HFO.out]; omega)
        have HOWN : Hid ((w6.alloc (.cells f.cs.toArray 34)).ownsRow S0 34 28 u6 FSQ.length (rowsOf Ft.cs FSQ)) := Lib.hid (own_grows (own_grows ho hC6) ((Grows.refl _).alloc _))
        have HRD8 : Hid (Rd (w6.alloc (.cells f.cs.toArray 34)) (some ⟨w6.heap.size, 0, none⟩) f.cs) := Lib.hid (rd_new w6 f.cs.toArray 34 (0, 0))
        have HML : Hid (f.cs.length = 1 * 28) := Lib.hid (by rw [Ft.cs_len HFO.out])
        have HMO : Hid (∀ u ∈ f.cs, u.oneCell' = true) := Lib.hid (fun u hu => (Array.all_eq_true_iff_forall_mem.1 f.cs_one) u (by simpa using hu))
        have HMX : Hid (FSQ.length + 1 ≤ maxLen) := Lib.hid (by have := HFL.out; unfold maxLen; omega)
        have HMB : Hid ((FSQ.length + 1) * 112 ≤ 140737488355328) := Lib.hid (by have := HFL.out; omega)
        have HBS : Hid (S0 ≤ (w6.alloc (.cells f.cs.toArray 34)).heap.size) := Lib.hid (by have := HC6.out.size; have := HS0.out; rw [World.size_alloc]; omega)
        clear hFS ho hC6 HA HGB HW5 HW13 he HOW
        go_wp2_with (first | (with_reducible refine wpList_load_mid (op := ⟨some 34, .load 34 (.tmp 33), _, _, _, none⟩) rfl 34 (.tmp 33) rfl g (off + k * 28) ?k2 f.cs _ HRF.out Try.underlying34 rfl HIF.out ?_) | (with_reducible refine wpList_buildOne (o := ⟨some 35, .buildSlice 24 1 #[(0, .tmp 34)], _, _, _, none⟩) rfl 24 34 (.tmp 34) rfl f.cs.toArray i0 (.agg fz) Try.underlying24 hi0 hz0 HSI.out HPO.out HSM.out ?k3 ?_) | (at_builtin; (refine wpList_append_rd _ rfl (.tmp 30) (.tmp 35) 24 rfl S0 34 i0 (.agg fz) 28 112 Try.underlying24 hi0 hz0 hz1 hz2 rfl (by decide) u6 FSQ.length (rowsOf Ft.cs FSQ) rfl HOWN.out (some ⟨w6.heap.size, 0, none⟩) 1 1 f.cs rfl HRD8.out HML.out HMO.out HMX.out HMB.out HBS.out ?app)))
        all_goals try rfl
        case app =>
          intro v4 w10 hown4 hgr4 _
          have HGX : Hid (Grows w2 w10) := Lib.hid ((HC6.out.alloc _).grown hgr4 (fun i hi => by have := (own_typed HOWN.out hi).choose_spec.2.1; have := HS0.out; omega))
          have HO4 := Lib.hid hown4
          clear hown4 hgr4
          go_wp2_with fail
          go_roundg (gk - 1)
          case measure => omega
          refine ⟨k + 1, by omega, rfl, HGX.out, ?_, fun h => by omega⟩
          rw [filt_more HFK.out, HBF.out, HFS.out, if_pos rfl, rows_append, rows_one, List.length_append]
          exact HO4.out
    · have : k = rs.length := by omega
      have ho := HOW.out
      rw [this, List.take_length] at ho
      have HO := Lib.hid ho
      have h1 : ¬ (k : Int) < (rs.length : Int) := by omega
      clear hlt ho
      go_wp2_with fail
      go_ret2
      refine ⟨HG2.out.trans HGW.out, ?_⟩
      rcases HCS.out with ⟨hm, h2, h3⟩ | ⟨hm, h2, h3⟩
      · have ho := HO.out
        rw [h2, wrongF_reads] at ho
        subst h3
        exact .inr ⟨hm, u6, rfl, own_lower ho (by have := HS0.out; have := HG2.out.size; omega)⟩
      · have hn := HNIL.out (by rw [this, h2]; rfl)
        subst h3
        refine .inl ⟨hm, ?_⟩
        rw [hn]
        rfl
end Go.Proofs.Ytfigoeoimefngaa
