/-
  The law WitnessTells: the program's answers are the reference's.
-/
import Derived.Test.YtfigoeoimefngaaWqF
import Derived.Test.YtfigoeoimefngaaWqG
import Derived.Test.YtfigoeoimefngaaWnD
namespace Go.Proofs.Ytfigoeoimefngaa
open Go.RowKit Go.Maps Go.Shelf

def tw (L : List Sn) : List Ft := if mayB L = true then wrongF L else []
def te (L : List Sn) : Int := if mayB L = true then 0 else 2
def tF (L : List Sn) : Ft := if mayB L = true then frC (wrongF L) else zF
def tb (L : List Sn) : Bool := if mayB L = true then (frF (wrongF L)).isSome else false
def tm (L : List Sn) : List Sn := if mayB L = true then mendL L else []
def tR (L : List Sn) : Nat := if mayB L = true then (readsF L).length else 0
def tN (L : List Sn) : Nat := if mayB L = true then (wrongF L).length else 0
def tK (L : List Sn) : List Int := if mayB L = true then kcs (wrongF L) else [0, 0, 0, 0, 0]
theorem tw_ok {L : List Sn} (hok : ∀ x ∈ L, x.n.ok ∧ x.wk.ok) : ∀ f ∈ tw L, f.ok := by
  unfold tw
  intro f hf
  by_cases hm : mayB L = true
  · rw [if_pos hm] at hf; exact wrongF_ok hm hok f hf
  · rw [if_neg hm] at hf; cases hf
theorem tw_len {L : List Sn} (hL : L.length ≤ 1000) : (tw L).length ≤ 1000000 := by
  unfold tw
  by_cases hm : mayB L = true
  · rw [if_pos hm]; exact wrongF_len hL
  · rw [if_neg hm]; exact Nat.zero_le _
theorem tF_ok {L : List Sn} (hok : ∀ x ∈ L, x.n.ok ∧ x.wk.ok) : (tF L).ok := by
  unfold tF
  by_cases hm : mayB L = true
  · rw [if_pos hm]; exact frC_ok (wrongF_ok hm hok)
  · rw [if_neg hm]; exact zF_ok
theorem tK_len (L : List Sn) : (tK L).length = 5 := by unfold tK; split <;> rfl
theorem tm_len (L : List Sn) : (tm L).length ≤ L.length := by
  unfold tm
  by_cases hm : mayB L = true
  · rw [if_pos hm]; unfold mendL; rw [mendK_len]; exact Nat.le_refl _
  · rw [if_neg hm]; exact Nat.zero_le _
theorem WrongP.fn {L : List Sn} {w w' : World} {e : Ending} (h : WrongP L w e w') : Grows w w' ∧ ∃ av cv, e = .returned (.tuple #[.slice av (tw L).length cv, .int .i64 (te L)]) ∧ Rd w' av (rowsOf Ft.cs (tw L)) := by
  unfold tw te
  obtain ⟨hg, ⟨hm, rfl⟩ | ⟨hm, v, rfl, ho⟩⟩ := h
  · have hm' : ¬ mayB L = true := by rw [hm]; exact Bool.noConfusion
    rw [if_neg hm', if_neg hm']
    exact ⟨hg, none, 0, rfl, Rd.nil _ _⟩
  · rw [if_pos hm, if_pos hm]
    obtain ⟨av, cv, rfl, _, _, _⟩ := own_slice ho
    exact ⟨hg, av, cv, rfl, Rd.own ho⟩
theorem FirstP.fn {L : List Sn} {w w' : World} {e : Ending} (h : FirstP L w e w') : Grows w w' ∧ e = .returned (.tuple #[.agg (tF L).cs.toArray, .bool (tb L)]) := by
  unfold tF tb
  obtain ⟨hg, ⟨hm, rfl⟩ | ⟨hm, rfl⟩⟩ := h
  · have hm' : ¬ mayB L = true := by rw [hm]; exact Bool.noConfusion
    rw [if_neg hm', if_neg hm']
    exact ⟨hg, rfl⟩
  · rw [if_pos hm, if_pos hm]
    exact ⟨hg, rfl⟩
theorem CountP.fn {L : List Sn} {w w' : World} {e : Ending} (h : CountP L w e w') : Grows w w' ∧ e = .returned (.tuple #[.int .i64 (tR L : Int), .int .i64 (tN L : Int), .agg (civ (tK L)).toArray, .int .i64 (te L)]) := by
  unfold tR tN tK te
  obtain ⟨hg, ⟨hm, rfl⟩ | ⟨hm, rfl⟩⟩ := h
  · have hm' : ¬ mayB L = true := by rw [hm]; exact Bool.noConfusion
    rw [if_neg hm', if_neg hm', if_neg hm', if_neg hm']
    exact ⟨hg, rfl⟩
  · rw [if_pos hm, if_pos hm, if_pos hm, if_pos hm]
    exact ⟨hg, rfl⟩
theorem MendP.fn {L : List Sn} {w w' : World} {e : Ending} (h : MendP L w e w') : Grows w w' ∧ ∃ av cv, e = .returned (.tuple #[.slice av (tm L).length cv, .int .i64 (te L)]) ∧ Rd w' av (rowsOf Sn.cs (tm L)) := by
  unfold tm te
  obtain ⟨hg, ⟨hm, rfl⟩ | ⟨hm, v, rfl, ho⟩⟩ := h
  · have hm' : ¬ mayB L = true := by rw [hm]; exact Bool.noConfusion
    rw [if_neg hm', if_neg hm']
    exact ⟨hg, none, 0, rfl, Rd.nil _ _⟩
  · rw [if_pos hm, if_pos hm]
    obtain ⟨av, cv, rfl, _, _, _⟩ := own_slice ho
    have hl : (mendL L).length = L.length := by unfold mendL; rw [mendK_len]
    rw [hl]
    exact ⟨hg, av, cv, rfl, Rd.own ho⟩
theorem k5_flat : flatQ Try.prog 2 54 = some (List.replicate 5 (some .i64)) := by kernel_rfl
theorem k5_mk : ∀ cs, mkV Try.prog 54 cs = .agg cs.toArray := fun cs => by unfold mkV; rw [Try.underlying54]
theorem k5_kinds : ∀ {l : List Int}, l.length = 5 → OfKinds (List.replicate 5 (some .i64)) (civ l)
  | [_, _, _, _, _], _ => ⟨⟨_, rfl⟩, ⟨_, rfl⟩, ⟨_, rfl⟩, ⟨_, rfl⟩, ⟨_, rfl⟩, trivial⟩
theorem k5_self {l : List Int} (h : l.length = 5) (W : World) : (Op.equalIn 10000 54 (.agg (civ l).toArray) (.agg (civ l).toArray)).run Try.prog W = .ok true W := by
  have := eq_flat_agg (P := Try.prog) W 2 54 _ k5_flat (by omega) k5_mk _ _ (k5_kinds h) (k5_kinds h)
  rw [this, (cellsEq_iff (k5_kinds h) (k5_kinds h)).2 rfl]
theorem civ5_all (l : List Int) : (civ l).toArray.all (·.oneCell') = true := all_oneCell_toArray (fun v hv => one_ints .i64 _ v hv)
theorem wpList_load_want {P : Program} {ops : Array Oper} {rest : List Oper} {o : Oper} {a : Act} {w : World} {Q : Exit → Act → World → Prop} (hw : Region.wanted o (yielded ops a.tmps) = true) (ty : TypeId) (x : Operand) (ho : o.op = .load ty x)
    (b off : Nat) (v : Value) (hx : a.eval x = .pointer (some ⟨b, off, none⟩)) (hv : (loadVar ty ⟨b, off, none⟩).run P w = .ok v w) (h : wpList P ops Q rest (a.put o.dst v) w) : wpList P ops Q (o :: rest) a w := by
  unfold wpList
  rw [if_pos hw]
  exact .inl (wp_load_at ty x ho b off v hx hv h)
set_option maxRecDepth 100000 in
set_option maxHeartbeats 8000000 in
theorem tells32_walk (L : List Sn) (n : Nat) (hn : L.length = n) (hok : ∀ x ∈ L, x.n.ok ∧ x.wk.ok) (a : Option Addr) (cap : Nat) (w : World) (hr : Rd w a (rowsOf Sn.cs L)) :
    Calls Try.prog 8 #[.slice a n cap] w fun e w' => e = .returned (.bool true) ∧ Grows w w' := by
  have hfz := fz_zero
  have HR := Lib.hid hr
  have HN := Lib.hid hn
  have HOK := Lib.hid hok
  clear hr hn hok
  by_cases h1 : n ≤ 300
  · have h1i : decide ((n : Int) > 300) = false := decide_eq_false (by omega)
    have H1 := Lib.hid h1
    clear h1
    obtain ⟨fs, hfs⟩ : ∃ fs, tw L = fs := ⟨_, rfl⟩
    obtain ⟨ec, hec⟩ : ∃ ec, te L = ec := ⟨_, rfl⟩
    obtain ⟨F, hF⟩ : ∃ F, tF L = F := ⟨_, rfl⟩
    obtain ⟨fb, hfb⟩ : ∃ fb, tb L = fb := ⟨_, rfl⟩
    obtain ⟨ms, hms⟩ : ∃ ms, tm L = ms := ⟨_, rfl⟩
    obtain ⟨R, hR⟩ : ∃ R, tR L = R := ⟨_, rfl⟩
    obtain ⟨N, hN⟩ : ∃ N, tN L = N := ⟨_, rfl⟩
    obtain ⟨ks, hks⟩ : ∃ ks, tK L = ks := ⟨_, rfl⟩
    have HFO : Hid (∀ f ∈ fs, f.ok) := Lib.hid (by rw [← hfs]; exact tw_ok HOK.out)
    have HFL : Hid (fs.length ≤ 1000000) := Lib.hid (by rw [← hfs]; exact tw_len (by have := HN.out; have := H1.out; omega))
    have HF : Hid F.ok := Lib.hid (by rw [← hF]; exact tF_ok HOK.out)
    have HML : Hid (ms.length ≤ 1000000) := Lib.hid (by rw [← hms]; have := tm_len L; have := HN.out; have := H1.out; omega)
    have HKL : Hid (ks.length = 5) := Lib.hid (by rw [← hks]; exact tK_len L)
    have HWR : Hid (∀ W, Grows w W → Calls Try.prog 10 #[.slice a n cap] W fun e w' => Grows W w' ∧ ∃ av cv, e = .returned (.tuple #[.slice av fs.length cv, .int .i64 ec]) ∧ Rd w' av (rowsOf Ft.cs fs)) := Lib.hid (fun W hW => by
      rw [← hfs, ← hec]
      exact (wrong_any L n HN.out (by have := H1.out; omega) HOK.out a cap W (HR.out.grows hW)).mono fun e w' h => h.fn)
    have HWR' : Hid (∀ W, Grows w W → Calls Try.prog 21 #[.slice a n cap] W fun e w' => Grows W w' ∧ ∃ av cv, e = .returned (.tuple #[.slice av fs.length cv, .int .i64 ec]) ∧ Rd w' av (rowsOf Ft.cs fs)) := Lib.hid (fun W hW => by
      rw [← hfs, ← hec]
      exact (refwrong_any L n HN.out (by have := H1.out; omega) HOK.out a cap W (HR.out.grows hW)).mono fun e w' h => h.fn)
    have HFI : Hid (∀ W, Grows w W → Calls Try.prog 19 #[.slice a n cap] W fun e w' => Grows W w' ∧ e = .returned (.tuple #[.agg F.cs.toArray, .bool fb])) := Lib.hid (fun W hW => by
      rw [← hF, ← hfb]
      exact (first32_any L n HN.out (by have := H1.out; omega) HOK.out a cap W (HR.out.grows hW)).mono fun e w' h => h.fn)
    have HFI' : Hid (∀ W, Grows w W → Calls Try.prog 22 #[.slice a n cap] W fun e w' => Grows W w' ∧ e = .returned (.tuple #[.agg F.cs.toArray, .bool fb])) := Lib.hid (fun W hW => by
      rw [← hF, ← hfb]
      exact (reffirst_any L n HN.out (by have := H1.out; omega) HOK.out a cap W (HR.out.grows hW)).mono fun e w' h => h.fn)
    have HME : Hid (∀ W, Grows w W → Calls Try.prog 15 #[.slice a n cap] W fun e w' => Grows W w' ∧ ∃ av cv, e = .returned (.tuple #[.slice av ms.length cv, .int .i64 ec]) ∧ Rd w' av (rowsOf Sn.cs ms)) := Lib.hid (fun W hW => by
      rw [← hms, ← hec]
      exact (mend32_any L n HN.out (by have := H1.out; omega) HOK.out a cap W (HR.out.grows hW)).mono fun e w' h => h.fn)
    have HME' : Hid (∀ W, Grows w W → Calls Try.prog 17 #[.slice a n cap] W fun e w' => Grows W w' ∧ ∃ av cv, e = .returned (.tuple #[.slice av ms.length cv, .int .i64 ec]) ∧ Rd w' av (rowsOf Sn.cs ms)) := Lib.hid (fun W hW => by
      rw [← hms, ← hec]
      exact (refmend_any L n HN.out (by have := H1.out; omega) HOK.out a cap W (HR.out.grows hW)).mono fun e w' h => h.fn)
    have HCO : Hid (∀ W, Grows w W → Calls Try.prog 20 #[.slice a n cap] W fun e w' => Grows W w' ∧ e = .returned (.tuple #[.int .i64 (R : Int), .int .i64 (N : Int), .agg (civ ks).toArray, .int .i64 ec])) := Lib.hid (fun W hW => by
      rw [← hR, ← hN, ← hks, ← hec]
      exact (count32_any L n HN.out (by have := H1.out; omega) HOK.out a cap W (HR.out.grows hW)).mono fun e w' h => h.fn)
    have HCO' : Hid (∀ W, Grows w W → Calls Try.prog 24 #[.slice a n cap] W fun e w' => Grows W w' ∧ e = .returned (.tuple #[.int .i64 (R : Int), .int .i64 (N : Int), .agg (civ ks).toArray, .int .i64 ec])) := Lib.hid (fun W hW => by
      rw [← hR, ← hN, ← hks, ← hec]
      exact (refcount_any L n HN.out (by have := H1.out; omega) HOK.out a cap W (HR.out.grows hW)).mono fun e w' h => h.fn)
    clear hfs hec hF hfb hms hR hN hks HR HOK
    have HIF : Hid ((Try.prog.info? 34).map (·.size) = some F.cs.toArray.size) := Lib.hid (by rw [List.size_toArray, Ft.cs_len HF.out]; exact info_fault)
    have HIK : Hid ((Try.prog.info? 54).map (·.size) = some (civ ks).toArray.size) := Lib.hid (by rw [List.size_toArray]; unfold civ; rw [List.length_map, HKL.out]; exact info_k5)
    go_enter Try.func8, Try.ntmps8
    go_wp2_with fail
    clear h1i
    refine (HWR.out _ (Grows.refl _)).mono ?_
    rintro e w1 ⟨hg, av, cv, rfl, hrd⟩
    have HG1 := Lib.hid hg
    have HA1 := Lib.hid hrd
    clear hg hrd HWR
    go_wp2_with fail
    refine (HWR'.out _ HG1.out).mono ?_
    rintro e w2 ⟨hg, av', cv', rfl, hrd⟩
    have HG2 := Lib.hid (HG1.out.trans hg)
    have HA2 := Lib.hid (HA1.out.grows hg)
    have HB2 := Lib.hid hrd
    clear hg hrd HWR' HG1 HA1
    go_wp2_with fail
    refine (HFI.out _ HG2.out).mono ?_
    rintro e w3 ⟨hg, rfl⟩
    have HG3 := Lib.hid (HG2.out.trans hg)
    have HT3 : Hid ((w3.alloc (.cells fz 34)).there w3.heap.size 0 F.cs.toArray.size) := Lib.hid ((At.new w3 _ _).there 0 _ (by rw [List.size_toArray, Ft.cs_len HF.out]; exact Nat.le_refl _))
    obtain ⟨w4, hw4⟩ : ∃ w4, (w3.alloc (.cells fz 34)).setCells w3.heap.size 0 F.cs = w4 := ⟨_, rfl⟩
    have hg4 : Grows w3 w4 := by rw [← hw4]; exact Grows.setCells (Nat.le_refl _) _ _ ((Grows.refl _).alloc _)
    have HX4 : Hid (At w4 w3.heap.size 34 F.cs.toArray) := Lib.hid (by rw [← hw4]; exact At.all (cs := fz.toList) (At.new w3 _ _) (by rw [Ft.cs_len HF.out]; rfl))
    have HA4 := Lib.hid ((HA2.out.grows hg).grows hg4)
    have HB4 := Lib.hid ((HB2.out.grows hg).grows hg4)
    have HG4 := Lib.hid (HG3.out.trans hg4)
    clear hg hg4 HFI HG2 HA2 HB2 HG3
    go_wp2_with (with_reducible refine wpList_store_mid (op := ⟨none, .store 34 (.tmp 7) (.tmp 38), _, _, _, none⟩) rfl 34 (.tmp 7) (.tmp 38) rfl w3.heap.size 0 F.cs.toArray ?a1 ?a2 HT3.out HIF.out F.cs_one ?_)
    all_goals try rfl
    clear HT3 hw4
    obtain ⟨X, hX⟩ : ∃ X, w3.heap.size = X := ⟨_, rfl⟩
    rw [hX] at HX4 ⊢
    clear hX
    refine (HFI'.out _ HG4.out).mono ?_
    rintro e w5 ⟨hg, rfl⟩
    have HG5 := Lib.hid (HG4.out.trans hg)
    have HT5 : Hid ((w5.alloc (.cells fz 34)).there w5.heap.size 0 F.cs.toArray.size) := Lib.hid ((At.new w5 _ _).there 0 _ (by rw [List.size_toArray, Ft.cs_len HF.out]; exact Nat.le_refl _))
    obtain ⟨w6, hw6⟩ : ∃ w6, (w5.alloc (.cells fz 34)).setCells w5.heap.size 0 F.cs = w6 := ⟨_, rfl⟩
    have hg6 : Grows w5 w6 := by rw [← hw6]; exact Grows.setCells (Nat.le_refl _) _ _ ((Grows.refl _).alloc _)
    have HY6 : Hid (At w6 w5.heap.size 34 F.cs.toArray) := Lib.hid (by rw [← hw6]; exact At.all (cs := fz.toList) (At.new w5 _ _) (by rw [Ft.cs_len HF.out]; rfl))
    have HX6 := Lib.hid ((HX4.out.grows hg).grows hg6)
    have HA6 := Lib.hid ((HA4.out.grows hg).grows hg6)
    have HB6 := Lib.hid ((HB4.out.grows hg).grows hg6)
    have HG6 := Lib.hid (HG5.out.trans hg6)
    clear hg hg6 HFI' HG4 HA4 HB4 HG5 HX4
    go_wp2_with (with_reducible refine wpList_store_mid (op := ⟨none, .store 34 (.tmp 9) (.tmp 43), _, _, _, none⟩) rfl 34 (.tmp 9) (.tmp 43) rfl w5.heap.size 0 F.cs.toArray ?b1 ?b2 HT5.out HIF.out F.cs_one ?_)
    all_goals try rfl
    clear HT5 hw6
    obtain ⟨Y, hY⟩ : ∃ Y, w5.heap.size = Y := ⟨_, rfl⟩
    rw [hY] at HY6 ⊢
    clear hY
    refine (HME.out _ HG6.out).mono ?_
    rintro e w7 ⟨hg, am, cm, rfl, hrm⟩
    have HG7 := Lib.hid (HG6.out.trans hg)
    have HX7 := Lib.hid (HX6.out.grows hg)
    have HY7 := Lib.hid (HY6.out.grows hg)
    have HA7 := Lib.hid (HA6.out.grows hg)
    have HB7 := Lib.hid (HB6.out.grows hg)
    have HM7 := Lib.hid hrm
    clear hg hrm HG6 HX6 HY6 HA6 HB6 HME
    go_wp2_with fail
    refine (HME'.out _ HG7.out).mono ?_
    rintro e w8 ⟨hg, am', cm', rfl, hrm⟩
    have HG8 := Lib.hid (HG7.out.trans hg)
    have HX8 := Lib.hid (HX7.out.grows hg)
    have HY8 := Lib.hid (HY7.out.grows hg)
    have HA8 := Lib.hid (HA7.out.grows hg)
    have HB8 := Lib.hid (HB7.out.grows hg)
    have HM8 := Lib.hid (HM7.out.grows hg)
    have HK8 := Lib.hid hrm
    clear hg hrm HG7 HX7 HY7 HA7 HB7 HM7 HME'
    go_wp2_with fail
    refine (same32_any fs HFO.out fs.length rfl HFL.out _ _ _ _ _ HA8.out HB8.out).mono ?_
    rintro e w9 ⟨rfl, hg⟩
    have HG9 := Lib.hid (HG8.out.trans hg)
    have HX9 := HX8.out.grows hg
    have HY9 := HY8.out.grows hg
    have HM9 := Lib.hid (HM8.out.grows hg)
    have HK9 := Lib.hid (HK8.out.grows hg)
    have he := fun W => ft_self HF.out W
    have HLX : Hid ((loadVar 34 ⟨X, 0, none⟩).run Try.prog w9 = .ok (.agg F.cs.toArray) w9) := Lib.hid (run_loadVar_row w9 _ _ _ _ (0, 0) _ HX9 Try.underlying34 rfl HIF.out)
    have HLY : Hid ((loadVar 34 ⟨Y, 0, none⟩).run Try.prog w9 = .ok (.agg F.cs.toArray) w9) := Lib.hid (run_loadVar_row w9 _ _ _ _ (0, 0) _ HY9 Try.underlying34 rfl HIF.out)
    clear hg HG8 HX8 HY8 HA8 HB8 HM8 HK8 HX9 HY9
    go_wp2_with (first | (with_reducible refine wpList_load_want (o := ⟨some 65, .load 34 (.tmp 7), _, _, _, _⟩) ?e1 34 (.tmp 7) rfl X 0 (.agg F.cs.toArray) ?e2 HLX.out ?_) | (with_reducible refine wpList_load_want (o := ⟨some 66, .load 34 (.tmp 9), _, _, _, _⟩) ?e3 34 (.tmp 9) rfl Y 0 (.agg F.cs.toArray) ?e4 HLY.out ?_))
    all_goals try rfl
    refine (steps32_any ms ms.length rfl HML.out _ _ _ _ _ HM9.out HK9.out).mono ?_
    rintro e w10 ⟨rfl, hg⟩
    have HG10 := Lib.hid (HG9.out.trans hg)
    have he5 := fun W => k5_self HKL.out W
    clear hg he HLX HLY HG9 HM9 HK9 HF HIF
    go_wp2_with fail
    refine (HCO.out _ HG10.out).mono ?_
    rintro e w11 ⟨hg, rfl⟩
    have HT11 : Hid ((w11.alloc (.cells #[.int .i64 0, .int .i64 0, .int .i64 0, .int .i64 0, .int .i64 0] 54)).there w11.heap.size 0 (civ ks).toArray.size) := Lib.hid ((At.new w11 _ _).there 0 _ (by rw [List.size_toArray]; unfold civ; rw [List.length_map, HKL.out]; exact Nat.le_refl _))
    obtain ⟨w12, hw12⟩ : ∃ w12, (w11.alloc (.cells #[.int .i64 0, .int .i64 0, .int .i64 0, .int .i64 0, .int .i64 0] 54)).setCells w11.heap.size 0 (civ ks) = w12 := ⟨_, rfl⟩
    have hg12 : Grows w11 w12 := by rw [← hw12]; exact Grows.setCells (Nat.le_refl _) _ _ ((Grows.refl _).alloc _)
    have HX12 : Hid (At w12 w11.heap.size 54 (civ ks).toArray) := Lib.hid (by rw [← hw12]; exact At.all (cs := [(.int .i64 0), (.int .i64 0), (.int .i64 0), (.int .i64 0), (.int .i64 0)]) (At.new w11 _ _) (by unfold civ; rw [List.length_map, HKL.out]; rfl))
    have HG12 := Lib.hid ((HG10.out.trans hg).trans hg12)
    clear hg hg12 HCO HG10
    go_wp2_with (with_reducible refine wpList_store_mid (op := ⟨none, .store 54 (.tmp 17) (.tmp 90), _, _, _, none⟩) rfl 54 (.tmp 17) (.tmp 90) rfl w11.heap.size 0 (civ ks).toArray ?f1 ?f2 HT11.out HIK.out (civ5_all ks) ?_)
    all_goals try rfl
    clear HT11 hw12
    obtain ⟨X2, hX⟩ : ∃ X, w11.heap.size = X := ⟨_, rfl⟩
    rw [hX] at HX12 ⊢
    clear hX
    refine (HCO'.out _ HG12.out).mono ?_
    rintro e w13 ⟨hg, rfl⟩
    have HT13 : Hid ((w13.alloc (.cells #[.int .i64 0, .int .i64 0, .int .i64 0, .int .i64 0, .int .i64 0] 54)).there w13.heap.size 0 (civ ks).toArray.size) := Lib.hid ((At.new w13 _ _).there 0 _ (by rw [List.size_toArray]; unfold civ; rw [List.length_map, HKL.out]; exact Nat.le_refl _))
    obtain ⟨w14, hw14⟩ : ∃ w14, (w13.alloc (.cells #[.int .i64 0, .int .i64 0, .int .i64 0, .int .i64 0, .int .i64 0] 54)).setCells w13.heap.size 0 (civ ks) = w14 := ⟨_, rfl⟩
    have hg14 : Grows w13 w14 := by rw [← hw14]; exact Grows.setCells (Nat.le_refl _) _ _ ((Grows.refl _).alloc _)
    have hY14 : At w14 w13.heap.size 54 (civ ks).toArray := by rw [← hw14]; exact At.all (cs := [(.int .i64 0), (.int .i64 0), (.int .i64 0), (.int .i64 0), (.int .i64 0)]) (At.new w13 _ _) (by unfold civ; rw [List.length_map, HKL.out]; rfl)
    have hX14 := (HX12.out.grows hg).grows hg14
    have HG14 := Lib.hid ((HG12.out.trans hg).trans hg14)
    have HLX : Hid ((loadVar 54 ⟨X2, 0, none⟩).run Try.prog w14 = .ok (.agg (civ ks).toArray) w14) := Lib.hid (run_loadVar_row w14 _ _ _ _ (0, 0) _ hX14 Try.underlying54 rfl HIK.out)
    have HLY : Hid ((loadVar 54 ⟨w13.heap.size, 0, none⟩).run Try.prog w14 = .ok (.agg (civ ks).toArray) w14) := Lib.hid (run_loadVar_row w14 _ _ _ _ (0, 0) _ hY14 Try.underlying54 rfl HIK.out)
    clear hg hg14 HCO' HG12 hY14 hX14 HX12
    go_wp2_with (first | (with_reducible refine wpList_store_mid (op := ⟨none, .store 54 (.tmp 20) (.tmp 97), _, _, _, none⟩) rfl 54 (.tmp 20) (.tmp 97) rfl w13.heap.size 0 (civ ks).toArray ?g1 ?g2 HT13.out HIK.out (civ5_all ks) ?_) | (with_reducible refine wpList_load_want (o := ⟨some 108, .load 54 (.tmp 17), _, _, _, _⟩) ?g3 54 (.tmp 17) rfl X2 0 (.agg (civ ks).toArray) ?g4 HLX.out ?_) | (with_reducible refine wpList_load_want (o := ⟨some 109, .load 54 (.tmp 20), _, _, _, _⟩) ?g5 54 (.tmp 20) rfl w13.heap.size 0 (.agg (civ ks).toArray) ?g6 HLY.out ?_))
    all_goals try rfl
    refine (wakes_any _).mono ?_
    rintro e w15 ⟨rfl, hg⟩
    have HG15 := Lib.hid (HG14.out.trans hg)
    clear hg
    go_wp2_with fail
    go_ret
    exact ⟨rfl, HG15.out⟩
  · have h1i : decide ((n : Int) > 300) = true := decide_eq_true (by omega)
    have h1j : (n : Int) > 300 := by omega
    clear h1
    go_enter Try.func8, Try.ntmps8
    go_wp2_with fail
    refine (wakes_any _).mono ?_
    rintro e w9 ⟨rfl, hg9⟩
    have HG9 := Lib.hid hg9
    clear hg9
    go_wp2_with fail
    go_ret
    exact ⟨rfl, HG9.out⟩
end Go.Proofs.Ytfigoeoimefngaa
