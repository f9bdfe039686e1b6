/-
  The reference's First.
-/
import Derived.Test.YtfigoeoimefngaaWqD
import Derived.Test.YtfigoeoimefngaaWmB
namespace Go.Proofs.Ytfigoeoimefngaa
open Go.RowKit Go.Maps Go.Shelf

theorem wpList_buildAs {P : Program} {ops : Array Oper} {rest : List Oper} {o : Oper} {a : Act} {w : World} {Q : Exit → Act → World → Prop} (hgd : o.guard = none) (t : TypeId) (parts : Array (Nat × Operand)) (ho : o.op = .build t parts)
    (vals : List (Nat × Value)) (hv : parts.toList.map (fun (i, x) => (i, a.eval x)) = vals) (cells : Array Value) (hc : P.built t vals = some cells)
    (h : wpList P ops Q rest (a.put o.dst (.agg cells)) w) : wpList P ops Q (o :: rest) a w := by
  rw [← hv, ← Array.toList_map] at hc
  exact wpList_build hgd t parts ho (by rw [hc]; rfl) (by rw [hc]; exact h)
theorem fault_zero : Try.prog.built 34 [] = some fz := by kernel_rfl
theorem refwrong_told (L : List Sn) (n : Nat) (hn : L.length = n) (hL : n ≤ 1048576) (hok : ∀ x ∈ L, x.n.ok ∧ x.wk.ok) (a : Option Addr) (cap : Nat) (w : World) (hr : Rd w a (rowsOf Sn.cs L)) :
    Calls Try.prog 21 #[.slice a n cap] w fun e w' => Grows w w' ∧ ∃ av cv fs ec, e = .returned (.tuple #[.slice av fs.length cv, .int .i64 ec]) ∧ Rd w' av (rowsOf Ft.cs fs) ∧ (∀ f ∈ fs, f.ok) ∧ fs.length ≤ 1099511627776 ∧
      ((mayB L = true ∧ fs = wrongF L ∧ ec = 0) ∨ (mayB L = false ∧ fs = [] ∧ ec = 2)) := by
  refine (refwrong_any L n hn hL hok a cap w hr).mono ?_
  rintro e w' ⟨hg, ⟨hm, rfl⟩ | ⟨hm, v, rfl, ho⟩⟩
  · exact ⟨hg, none, 0, [], 2, rfl, Rd.nil _ _, (fun f h => by cases h), Nat.zero_le _, .inr ⟨hm, rfl, rfl⟩⟩
  · obtain ⟨av, cv, rfl, _, _, _⟩ := own_slice ho
    refine ⟨hg, av, cv, wrongF L, 0, rfl, Rd.own ho, wrongF_ok hm hok, ?_, .inl ⟨hm, rfl, rfl⟩⟩
    have h1 : (wrongF L).length ≤ (readsF L).length := by unfold wrongF; rw [List.length_map]; exact List.length_filter_le _ _
    exact Nat.le_trans h1 (readsF_len (by omega))
set_option maxRecDepth 100000 in
set_option maxHeartbeats 8000000 in
theorem reffirst_any (L : List Sn) (n : Nat) (hn : L.length = n) (hL : n ≤ 1048576) (hok : ∀ x ∈ L, x.n.ok ∧ x.wk.ok) (a : Option Addr) (cap : Nat) (w : World) (hr : Rd w a (rowsOf Sn.cs L)) :
    Calls Try.prog 22 #[.slice a n cap] w (FirstP L w) := by
  have hfz := fz_zero
  obtain ⟨wA, hwA⟩ : ∃ wA, w.alloc (.cells fz 34) = wA := ⟨_, rfl⟩
  have hgA : Grows w wA := by rw [← hwA]; exact (Grows.refl _).alloc _
  have HGA := Lib.hid hgA
  have HAA : Hid (At wA w.heap.size 34 fz) := Lib.hid (by rw [← hwA]; exact At.new w _ _)
  have HRT := Lib.hid (refwrong_told L n hn hL hok a cap wA (hr.grows hgA))
  clear hr hn hL hok hgA
  go_enter Try.func22, Try.ntmps22
  go_wp2_with fail
  refine HRT.out.mono ?_
  clear HRT
  rintro e w2 ⟨hg2, av, cv, fs, ec, rfl, hrd, hok, hlen, hcase⟩
  have HG2 := Lib.hid (HGA.out.trans hg2)
  have HRR := Lib.hid (HAA.out.grows hg2)
  have HRD := Lib.hid hrd
  have HOK := Lib.hid hok
  have HCS := Lib.hid hcase
  have HLN := Lib.hid hlen
  have HZI : Hid ((Try.prog.info? 34).map (·.size) = some fz.size) := Lib.hid info_fault
  have HZB := Lib.hid fault_zero
  have HZ1 : Hid (fz.all (·.oneCell') = true) := Lib.hid zF.cs_one
  clear hg2 hrd hok hcase hlen hwA HGA HAA
  by_cases hne : fs = []
  · subst hne
    have HTH : Hid (w2.there w.heap.size 0 fz.size) := Lib.hid (HRR.out.there 0 _ (by simp))
    go_wp2_with (first | (with_reducible refine wpList_buildAs (o := ⟨some 16, .build 34 #[], _, _, _, none⟩) rfl 34 #[] rfl [] ?p0 fz HZB.out ?_) | (with_reducible refine wpList_store_mid (op := ⟨none, .store 34 (.tmp 2) (.tmp 16), _, _, _, none⟩) rfl 34 (.tmp 2) (.tmp 16) rfl w.heap.size 0 fz ?p1 ?p2 HTH.out HZI.out HZ1.out ?_))
    all_goals try rfl
    have HAF := At.all (vs := fz.toList) (cs := fz.toList) HRR.out rfl
    refine bodyPost_ret (results_row_tmp Try.results22 _ _ w.heap.size 34 fz _ rfl HAF Try.underlying34 rfl info_fault) rfl ⟨Grows.setCells (Nat.le_refl _) _ _ HG2.out, ?_⟩
    rcases HCS.out with ⟨hm, h2, h3⟩ | ⟨hm, h2, h3⟩
    · refine .inr ⟨hm, ?_⟩
      rw [← h2]
      rfl
    · exact .inl ⟨hm, rfl⟩
  · have hpos : 0 < fs.length := by rcases fs with _ | ⟨f, l⟩; exact absurd rfl hne; simp
    have hne0 : ¬ ((fs.length : Int) = 0) := by omega
    have hf0 : fs[0]? = some fs[0] := List.getElem?_eq_getElem hpos
    have HF0 := Lib.hid (HOK.out _ (List.mem_of_getElem? hf0))
    obtain ⟨g, off, rfl, hgw, hA⟩ := ld_fault HRD.out HOK.out hf0
    generalize fs[0] = f0 at *
    have HFF := Lib.hid hf0
    have HA0 : Hid (w2.rangeAt g off f0.cs) := Lib.hid (by simpa using hA)
    obtain ⟨F, hF⟩ : ∃ F, w2.heap.size = F := ⟨_, rfl⟩
    have HFE := Lib.hid hF
    have HGB := Lib.hid hgw
    have HSF : Hid (w.heap.size < F) := Lib.hid (by rw [← hF]; exact HRR.out.lt)
    obtain ⟨wB, hwB⟩ : ∃ wB, w2.alloc (.cells fz 34) = wB := ⟨_, rfl⟩
    obtain ⟨wC, hwC⟩ : ∃ wC, wB.setCells F 0 f0.cs = wC := ⟨_, rfl⟩
    have hAB : At wB F 34 fz := by rw [← hwB, ← hF]; exact At.new w2 _ _
    have HTB : Hid (wB.there F 0 f0.cs.toArray.size) := Lib.hid (hAB.there 0 _ (by rw [List.size_toArray, Ft.cs_len HF0.out]; exact Nat.le_refl _))
    have HI0 : Hid ((Try.prog.info? 34).map (·.size) = some f0.cs.toArray.size) := Lib.hid (by rw [List.size_toArray, Ft.cs_len HF0.out]; exact info_fault)
    have HI0' : Hid ((Try.prog.info? 34).map (·.size) = some f0.cs.length) := Lib.hid (by rw [Ft.cs_len HF0.out]; exact info_fault)
    have HAC : Hid (At wC F 34 f0.cs.toArray) := Lib.hid (by rw [← hwC]; exact At.all (vs := f0.cs) (cs := fz.toList) hAB (by rw [Ft.cs_len HF0.out]; rfl))
    have HGC : Hid (Grows w2 wC) := Lib.hid (by rw [← hwC, ← hwB]; exact Grows.setCells (by omega) _ _ ((Grows.refl _).alloc _))
    clear hA hgw hAB hf0 hne
    go_wp2_with (first | (with_reducible refine wpList_load_mid (op := ⟨some 19, .load 34 (.tmp 18), _, _, _, none⟩) rfl 34 (.tmp 18) rfl g off ?q1 f0.cs _ HA0.out Try.underlying34 rfl HI0'.out ?_) | (with_reducible refine wpList_store_mid (op := ⟨none, .store 34 (.tmp 6) (.tmp 19), _, _, _, none⟩) rfl 34 (.tmp 6) (.tmp 19) rfl F 0 f0.cs.toArray ?q2 ?q3 HTB.out HI0.out f0.cs_one ?_))
    all_goals try rfl
    clear hwB hwC HTB HI0 HI0' HA0
    go_loopg [7] fs.length (fun gk v7 wr => ∃ k : Nat, gk + k = fs.length + 1 ∧ 0 < k ∧ k ≤ fs.length ∧ v7 = .int .i64 (k : Int) ∧ Grows w2 wr ∧ At wr F 34 (frC (fs.take k)).cs.toArray)
    case atStart =>
      have h1 : frC (fs.take 1) = f0 := (fr_more HFF.out).1 (.inl rfl)
      exact ⟨1, by omega, by omega, by omega, rfl, HGC.out, by rw [h1]; exact HAC.out⟩
    case round =>
      obtain ⟨k, hk, hk1, hk2, rfl, hg, hA⟩ := hrel
      have HGW := Lib.hid hg
      have HAF := Lib.hid hA
      clear hg hA HGC HAC
      have HKO : Hid ((frC (fs.take k)).ok) := Lib.hid (frC_ok (fun f hf => HOK.out f (List.mem_of_mem_take hf)))
      by_cases hlt : k < fs.length
      · have hfk : fs[k]? = some fs[k] := List.getElem?_eq_getElem hlt
        have HFO := Lib.hid (HOK.out _ (List.mem_of_getElem? hfk))
        obtain ⟨g', off', e1, hgw, hA⟩ := ld_fault (HRD.out.grows HGW.out) HOK.out hfk
        injection e1 with e1
        injection e1 with e1 e2
        subst e1 e2
        generalize fs[k] = f at *
        have HFM := Lib.hid (fr_more hfk)
        obtain ⟨h0, hh0⟩ : ∃ h0, frC (fs.take k) = h0 := ⟨_, rfl⟩
        rw [hh0] at HAF HKO HFM
        have LA : Hid (∀ W, Grows wr W → (loadVar 3 ⟨g, off + k * 28, none⟩).run Try.prog W = .ok (.int .i64 (f.at_ : Int)) W) := Lib.hid (ld_int Try.underlying3 (hA 0 _ rfl))
        have LB : Hid (∀ W, Grows wr W → (loadVar 3 ⟨F, 0, none⟩).run Try.prog W = .ok (.int .i64 (h0.at_ : Int)) W) := Lib.hid (ld_int Try.underlying3 (HAF.out.cell 0))
        have hlt' : (k : Int) < (fs.length : Int) := by omega
        have hk0 : (0 : Int) ≤ (k : Int) := by omega
        have hwr : IntKind.i64.wrap ((k : Int) + 1) = (k : Int) + 1 := IntWalk.i64_in _ (by have := HLN.out; omega)
        have HRG : Hid (wr.rangeAt g (off + k * 28) f.cs) := Lib.hid hA
        have HGB2 := Lib.hid hgw
        clear hA hfk hgw
        by_cases hat : f.at_ < h0.at_
        · have ha : decide (f.at_ < h0.at_) = true := by simp [hat]
          have ha2 : (f.at_ : Int) < (h0.at_ : Int) := by omega
          have HE : Hid (frC (fs.take (k + 1)) = f) := Lib.hid (HFM.out.1 (.inr hat))
          go_upto_region 8 with (fail)
          refine wp_region_class wr (by kernel_rfl) (by kernel_rfl) (Grows.refl _) ?_
          repeat (first
            | go_big_quiet_skip
            | (go_big_quiet_want; first
                | ((with_reducible refine quiet_load (b := g) (off := off + k * 28) ?_ LA.out ?_); rfl; (simp only [Act.put, List.setIfInBounds_toArray, List.set_cons_zero, List.set_cons_succ]); go_big_quiet_on)
                | ((with_reducible refine quiet_load (b := F) (off := 0) ?_ LB.out ?_); rfl; (simp only [Act.put, List.setIfInBounds_toArray, List.set_cons_zero, List.set_cons_succ]); go_big_quiet_on)
                | (go_big_quiet_op; (first
                    | go_big_quiet_on
                    | (refine ⟨_, fun _ _ => rfl, ?_⟩; go_big_quiet_on)))))
          refine wpQuiet_nil ?_
          intro w6 hC6
          have HG6 := Lib.hid (HGW.out.trans hC6)
          have HR6 : Hid (w6.rangeAt g (off + k * 28) f.cs) := Lib.hid (fun j v hv => (hC6.cell g _ HGB2.out).trans (HRG.out j v hv))
          have hA6 := HAF.out.grows hC6
          have HTF : Hid (w6.there F 0 f.cs.toArray.size) := Lib.hid (hA6.there 0 _ (by rw [List.size_toArray, List.size_toArray, Ft.cs_len HFO.out, Ft.cs_len HKO.out]; exact Nat.le_refl _))
          have HIF : Hid ((Try.prog.info? 34).map (·.size) = some f.cs.toArray.size) := Lib.hid (by rw [List.size_toArray, Ft.cs_len HFO.out]; exact info_fault)
          have HIF' : Hid ((Try.prog.info? 34).map (·.size) = some f.cs.length) := Lib.hid (by rw [Ft.cs_len HFO.out]; exact info_fault)
          have HA7 : Hid (At (w6.setCells F 0 f.cs) F 34 f.cs.toArray) := Lib.hid (At.all (cs := h0.cs) hA6 (by rw [Ft.cs_len HFO.out, Ft.cs_len HKO.out]))
          have HG7 : Hid (Grows w2 (w6.setCells F 0 f.cs)) := Lib.hid (Grows.setCells (by have := HFE.out; omega) _ _ HG6.out)
          clear hC6 hA6 LA LB
          go_wp2_with (first | (with_reducible refine wpList_load_mid (op := ⟨some 37, .load 34 (.tmp 36), _, _, _, none⟩) rfl 34 (.tmp 36) rfl g (off + k * 28) ?r1 f.cs _ HR6.out Try.underlying34 rfl HIF'.out ?_) | (with_reducible refine wpList_store_mid (op := ⟨none, .store 34 (.tmp 6) (.tmp 37), _, _, _, none⟩) rfl 34 (.tmp 6) (.tmp 37) rfl F 0 f.cs.toArray ?r2 ?r3 HTF.out HIF.out f.cs_one ?_))
          all_goals try rfl
          go_roundg (gk - 1)
          case measure => omega
          exact ⟨k + 1, by omega, by omega, by omega, rfl, HG7.out, by rw [HE.out]; exact HA7.out⟩
        · have ha : decide (f.at_ < h0.at_) = false := by simp [hat]
          have ha2 : ¬ (f.at_ : Int) < (h0.at_ : Int) := by omega
          have HE : Hid (frC (fs.take (k + 1)) = h0) := Lib.hid (HFM.out.2 (by omega))
          go_upto_region 8 with (fail)
          refine wp_region_class wr (by kernel_rfl) (by kernel_rfl) (Grows.refl _) ?_
          repeat (first
            | go_big_quiet_skip
            | (go_big_quiet_want; first
                | ((with_reducible refine quiet_load (b := g) (off := off + k * 28) ?_ LA.out ?_); rfl; (simp only [Act.put, List.setIfInBounds_toArray, List.set_cons_zero, List.set_cons_succ]); go_big_quiet_on)
                | ((with_reducible refine quiet_load (b := F) (off := 0) ?_ LB.out ?_); rfl; (simp only [Act.put, List.setIfInBounds_toArray, List.set_cons_zero, List.set_cons_succ]); go_big_quiet_on)
                | (go_big_quiet_op; (first
                    | go_big_quiet_on
                    | (refine ⟨_, fun _ _ => rfl, ?_⟩; go_big_quiet_on)))))
          refine wpQuiet_nil ?_
          intro w6 hC6
          have HG6 := Lib.hid (HGW.out.trans hC6)
          have HA6 := Lib.hid (HAF.out.grows hC6)
          clear hC6 LA LB
          go_wp2_with fail
          go_roundg (gk - 1)
          case measure => omega
          exact ⟨k + 1, by omega, by omega, by omega, rfl, HG6.out, by rw [HE.out]; exact HA6.out⟩
      · have : fs.take k = fs := List.take_of_length_le (by omega)
        rw [this] at HAF HKO
        have h1 : ¬ (k : Int) < (fs.length : Int) := by omega
        obtain ⟨h0, hh0⟩ : ∃ h0, frC fs = h0 := ⟨_, rfl⟩
        rw [hh0] at HAF HKO
        have HRX := HRR.out.grows HGW.out
        have HH0 := Lib.hid hh0
        have HTR : Hid (wr.there w.heap.size 0 h0.cs.toArray.size) := Lib.hid (HRX.there 0 _ (by rw [List.size_toArray, Ft.cs_len HKO.out]; exact Nat.le_refl _))
        have HI0 : Hid ((Try.prog.info? 34).map (·.size) = some h0.cs.toArray.size) := Lib.hid (by rw [List.size_toArray, Ft.cs_len HKO.out]; exact info_fault)
        have HI0' : Hid ((Try.prog.info? 34).map (·.size) = some h0.cs.length) := Lib.hid (by rw [Ft.cs_len HKO.out]; exact info_fault)
        have HRL : Hid (wr.rangeAt F 0 h0.cs) := Lib.hid (fun j v hv => by rw [Nat.zero_add, HAF.out.cell]; simpa using hv)
        have HAE : Hid (At (wr.setCells w.heap.size 0 h0.cs) w.heap.size 34 h0.cs.toArray) := Lib.hid (At.all (cs := fz.toList) HRX (by rw [Ft.cs_len HKO.out]; rfl))
        clear this hlt hh0 HRX
        go_wp2_with (first | (with_reducible refine wpList_load_mid (op := ⟨some 38, .load 34 (.tmp 6), _, _, _, none⟩) rfl 34 (.tmp 6) rfl F 0 ?t1 h0.cs _ HRL.out Try.underlying34 rfl HI0'.out ?_) | (with_reducible refine wpList_store_mid (op := ⟨none, .store 34 (.tmp 2) (.tmp 38), _, _, _, none⟩) rfl 34 (.tmp 2) (.tmp 38) rfl w.heap.size 0 h0.cs.toArray ?t2 ?t3 HTR.out HI0.out h0.cs_one ?_))
        all_goals try rfl
        refine bodyPost_ret (results_row_tmp Try.results22 _ _ w.heap.size 34 h0.cs.toArray _ rfl HAE.out Try.underlying34 rfl HI0.out) rfl ⟨Grows.setCells (Nat.le_refl _) _ _ (HG2.out.trans HGW.out), ?_⟩
        rcases HCS.out with ⟨hm, h2, h3⟩ | ⟨hm, h2, h3⟩
        · refine .inr ⟨hm, ?_⟩
          rw [frF_some, ← h2, HH0.out, decide_eq_true hpos]
          rfl
        · rw [h2] at hpos
          cases hpos
end Go.Proofs.Ytfigoeoimefngaa
