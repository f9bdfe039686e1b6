/-
  WitnessBlames: the walk.
-/
import Derived.Test.YtfigoeoimefngaaWiU
import Derived.Deep.Cut
import Derived.Deep.CutRange
namespace Go.Proofs.Ytfigoeoimefngaa
open Go.RowKit Go.Maps Go.Shelf

set_option maxRecDepth 100000 in
set_option maxHeartbeats 8000000 in
theorem blames_walk (L : List Sn) (n : Nat) (hn : L.length = n) (hok : ∀ x ∈ L, x.n.ok ∧ x.wk.ok) (a : Option Addr) (cap : Nat) (hcap : n ≤ cap) (w : World) (hr : Rd w a (rowsOf Sn.cs L)) :
    Calls Try.prog 3 #[.slice a n cap] w fun e w' => e = .returned (.bool true) ∧ Grows w w' := by
  have HR := Lib.hid hr
  have HN := Lib.hid hn
  have HOK := Lib.hid hok
  have HCP := Lib.hid hcap
  clear hr hn hok hcap
  by_cases hb : n ≤ 300
  · have hbi : decide ((n : Int) > 300) = false := decide_eq_false (by omega)
    have HB := Lib.hid hb
    have HWR := Lib.hid (wrong_any L n HN.out (by omega) HOK.out a cap w HR.out)
    clear hb
    go_enter Try.func3, Try.ntmps3
    go_wp2_with fail
    refine HWR.out.mono ?_
    rintro e w1 ⟨hg, ⟨hm, rfl⟩ | ⟨hm, v, rfl, ho⟩⟩
    · have HG := Lib.hid hg
      clear hm hg HWR
      go_wp2_with fail
      refine (wakes_any _).mono ?_
      rintro e w2 ⟨rfl, hg2⟩
      have HG2 := Lib.hid (HG.out.trans hg2)
      clear hg2
      go_wp2_with fail
      go_ret
      exact ⟨rfl, HG2.out⟩
    · obtain ⟨fs, hfs⟩ : ∃ fs, wrongF L = fs := ⟨_, rfl⟩
      have HM := Lib.hid hm
      have HG := Lib.hid hg
      obtain ⟨av, cv, rfl, _, _, _⟩ := own_slice ho
      have HRF := Lib.hid (Rd.own ho)
      have HFL := Lib.hid (wrongF_len (L := L) (by have := HN.out; have := HB.out; omega))
      have HFS := Lib.hid hfs
      rw [hfs] at HRF HFL ⊢
      clear hm hg ho HWR hfs
      go_wp2_with fail
      go_loopg [5] fs.length (fun gk v5 wr => ∃ i : Nat, gk + i = fs.length ∧ v5 = .int .i64 (i : Int) ∧ Grows w1 wr)
      case atStart => exact ⟨0, by omega, rfl, Grows.refl _⟩
      case round =>
        obtain ⟨i, hi, rfl, hgr⟩ := hrel
        have HGW := Lib.hid hgr
        clear hgr
        by_cases hlt : i < fs.length
        · have hfi : fs[i]? = some fs[i] := List.getElem?_eq_getElem hlt
          have hmem : fs[i] ∈ wrongF L := by rw [HFS.out]; exact List.getElem_mem hlt
          have hall : ∀ f ∈ fs, f.cs.length = 28 := fun f hf => by
            rw [← HFS.out] at hf
            unfold wrongF at hf
            obtain ⟨f0, h1, rfl⟩ := List.mem_map.1 hf
            have h2 := (readsF_ok HM.out HOK.out (List.mem_filter.1 h1).1).ok
            exact Ft.cs_len ⟨h2.want, h2.got⟩
          have hfo : fs[i].ok := by
            unfold wrongF at hmem
            obtain ⟨f0, h1, h3⟩ := List.mem_map.1 hmem
            have h2 := (readsF_ok HM.out HOK.out (List.mem_filter.1 h1).1).ok
            rw [← h3]
            exact ⟨h2.want, h2.got⟩
          obtain ⟨g, off, rfl, hgw, hcF⟩ := (HRF.out.grows HGW.out).at (show 0 < (rowsOf Ft.cs fs).length by
            have h1 := (List.getElem?_eq_some_iff.1 (rowsFt hall hfi 0 (.int .i64 (fs[i].at_ : Int)) rfl)).1; omega)
          have HRG : Hid (wr.rangeAt g (off + i * 28) fs[i].cs) := Lib.hid (fun j v hv => by
            have h1 := rowsFt hall hfi j v hv
            obtain ⟨h2, h3⟩ := List.getElem?_eq_some_iff.1 h1
            have h4 := hcF _ h2
            rw [h3] at h4
            rw [Nat.add_assoc]; exact h4)
          obtain ⟨x, hbl⟩ := blame_any HM.out hmem
          have HBL := Lib.hid hbl
          have HFO := Lib.hid hfo
          clear hall hfi hmem hcF hbl hfo
          generalize fs[i] = f at *
          have hi1 : (i : Int) < (fs.length : Int) := by omega
          have hi0 : (0 : Int) ≤ (i : Int) := by omega
          have hwr : IntKind.i64.wrap ((i : Int) + 1) = (i : Int) + 1 := IntWalk.i64_in _ (by have := HFL.out; omega)
          obtain ⟨W4, hW4⟩ : ∃ W4, (wr.alloc (.cells fz 34)).setCells wr.heap.size 0 f.cs.toArray.toList = W4 := ⟨_, rfl⟩
          have HG4 : Hid (Grows wr W4) := Lib.hid (by rw [← hW4]; exact (Turns.sets (O := fun i => i = wr.heap.size) (g := wr.heap.size) (.inl rfl) _ 0 ((Turns.refl _ wr).alloc _)).low (Grows.refl wr) (fun i hi => by omega))
          have HX4 : Hid (At W4 wr.heap.size 34 f.cs.toArray) := Lib.hid (by
            rw [← hW4]
            exact At.all (cs := fz.toList) (At.new wr _ _) (by rw [List.toList_toArray, Ft.cs_len HFO.out]; rfl))
          have hfz := fz_zero
          have HTH : Hid ((wr.alloc (.cells fz 34)).there wr.heap.size 0 f.cs.toArray.size) := Lib.hid ((At.new wr _ _).there 0 _ (by rw [List.size_toArray, Ft.cs_len HFO.out]; exact Nat.le_refl _))
          have HI1 : Hid ((Try.prog.info? 34).map (·.size) = some f.cs.toArray.size) := Lib.hid (by rw [List.size_toArray, Ft.cs_len HFO.out]; exact info_fault)
          have HI2 : Hid ((Try.prog.info? 34).map (·.size) = some f.cs.length) := Lib.hid (by rw [Ft.cs_len HFO.out]; exact info_fault)
          go_upto_region 10 with (first | (with_reducible refine wpList_load_mid (op := ⟨some 33, .load 34 (.tmp 32), _, _, _, none⟩) rfl 34 (.tmp 32) rfl g (off + i * 28) ?a1 f.cs _ HRG.out Try.underlying34 rfl HI2.out ?_) | (with_reducible refine wpList_store_mid (op := ⟨none, .store 34 (.tmp 6) (.tmp 33), _, _, _, none⟩) rfl 34 (.tmp 6) (.tmp 33) rfl wr.heap.size 0 f.cs.toArray ?b1 ?b2 HTH.out HI1.out f.cs_one ?_))
          all_goals try rfl
          go_frame
          have hW5 : (wr.alloc (.cells fz 34)).setCells wr.heap.size 0 f.cs = W4 := hW4
          first | rw [hW4] | rw [hW5]
          clear hW5
          obtain ⟨p, fn, fb, want, got, sh, wa, kk⟩ := f
          obtain ⟨b1, b2, rfl, rfl, rfl, b6, b7, b8, b9, b10, b11⟩ := HBL.out
          simp only at b1 b2 b6 b7 b8 b9 b10 b11
          obtain ⟨y0, y1, y2, y3, y4, y5, y6, y7, rfl⟩ := eight_of HFO.out.want
          have hpl := (List.getElem?_eq_some_iff.1 b1).1
          have hpx := (List.getElem?_eq_some_iff.1 b1).2
          obtain ⟨gL, oL, rfl, hgL, hcL⟩ := cells14 (((HR.out.grows HG.out).grows HGW.out).grows HG4.out) hpl
          rw [hpx] at hcL
          obtain ⟨c0, c1, c2, c3, c4, c5, c6, c7, c8, c9, c10, c11, c12, c13⟩ := cells14_at hcL
          have f0 : W4.cell? ⟨wr.heap.size, 0, none⟩ = some (.int .i64 (p : Int)) := HX4.out.cell 0
          have f1 : W4.cell? ⟨wr.heap.size, 1, none⟩ = some (.int .i64 x.n.s) := HX4.out.cell 1
          have f2 : W4.cell? ⟨wr.heap.size, 2, none⟩ = some (.int .i64 x.n.i) := HX4.out.cell 2
          have f3 : W4.cell? ⟨wr.heap.size, 3, none⟩ = some (.int .i64 x.n.t) := HX4.out.cell 3
          have f4 : W4.cell? ⟨wr.heap.size, 4, none⟩ = some (.int .i64 x.b) := HX4.out.cell 4
          have f5 : W4.cell? ⟨wr.heap.size, 5, none⟩ = some (.int .u8 y0) := HX4.out.cell 5
          have f6 : W4.cell? ⟨wr.heap.size, 6, none⟩ = some (.int .u8 y1) := HX4.out.cell 6
          have f7 : W4.cell? ⟨wr.heap.size, 7, none⟩ = some (.int .u8 y2) := HX4.out.cell 7
          have f8 : W4.cell? ⟨wr.heap.size, 8, none⟩ = some (.int .u8 y3) := HX4.out.cell 8
          have f9 : W4.cell? ⟨wr.heap.size, 9, none⟩ = some (.int .u8 y4) := HX4.out.cell 9
          have f10 : W4.cell? ⟨wr.heap.size, 10, none⟩ = some (.int .u8 y5) := HX4.out.cell 10
          have f11 : W4.cell? ⟨wr.heap.size, 11, none⟩ = some (.int .u8 y6) := HX4.out.cell 11
          have f12 : W4.cell? ⟨wr.heap.size, 12, none⟩ = some (.int .u8 y7) := HX4.out.cell 12
          have f13 : W4.cell? ⟨wr.heap.size, 13, none⟩ = some (.int .u8 x.x0) := HX4.out.cell 13
          have f14 : W4.cell? ⟨wr.heap.size, 14, none⟩ = some (.int .u8 x.x1) := HX4.out.cell 14
          have f15 : W4.cell? ⟨wr.heap.size, 15, none⟩ = some (.int .u8 x.x2) := HX4.out.cell 15
          have f16 : W4.cell? ⟨wr.heap.size, 16, none⟩ = some (.int .u8 x.x3) := HX4.out.cell 16
          have f17 : W4.cell? ⟨wr.heap.size, 17, none⟩ = some (.int .u8 x.x4) := HX4.out.cell 17
          have f18 : W4.cell? ⟨wr.heap.size, 18, none⟩ = some (.int .u8 x.x5) := HX4.out.cell 18
          have f19 : W4.cell? ⟨wr.heap.size, 19, none⟩ = some (.int .u8 x.x6) := HX4.out.cell 19
          have f20 : W4.cell? ⟨wr.heap.size, 20, none⟩ = some (.int .u8 x.x7) := HX4.out.cell 20
          have f21 : W4.cell? ⟨wr.heap.size, 21, none⟩ = some (.int .i64 sh.s) := HX4.out.cell 21
          have f22 : W4.cell? ⟨wr.heap.size, 22, none⟩ = some (.int .i64 sh.i) := HX4.out.cell 22
          have f23 : W4.cell? ⟨wr.heap.size, 23, none⟩ = some (.int .i64 sh.t) := HX4.out.cell 23
          have f24 : W4.cell? ⟨wr.heap.size, 24, none⟩ = some (.int .i64 wa.s) := HX4.out.cell 24
          have f25 : W4.cell? ⟨wr.heap.size, 25, none⟩ = some (.int .i64 wa.i) := HX4.out.cell 25
          have f26 : W4.cell? ⟨wr.heap.size, 26, none⟩ = some (.int .i64 wa.t) := HX4.out.cell 26
          have f27 : W4.cell? ⟨wr.heap.size, 27, none⟩ = some (.int .i8 kk) := HX4.out.cell 27
          have hp0 : (0 : Int) ≤ (p : Int) := by omega
          have hpn : (p : Int) < (n : Int) := by have := HN.out; omega
          have hp1 : decide ((p : Int) < 0) = false := decide_eq_false (by omega)
          have hp2 : decide (n ≤ p) = false := decide_eq_false (by omega)
          have e1 : (x.k == (1 : Int)) = true := by simp [b2]
          have e1' : (x.k != (1 : Int)) = false := by simp [b2]
          have e1n : (!(x.k == (1 : Int))) = false := by simp [b2]
          have hen : ∀ W, (Op.equalIn 10000 29 (.agg #[.int .i64 x.n.s, .int .i64 x.n.i, .int .i64 x.n.t]) (.agg #[.int .i64 x.n.s, .int .i64 x.n.i, .int .i64 x.n.t])).run Try.prog W = .ok true W := fun W => by have := eqn_any W x.n x.n; simpa using this
          have he8 : ∀ W, (Op.equalIn 10000 31 (.agg #[.int .u8 x.x0, .int .u8 x.x1, .int .u8 x.x2, .int .u8 x.x3, .int .u8 x.x4, .int .u8 x.x5, .int .u8 x.x6, .int .u8 x.x7]) (.agg #[.int .u8 x.x0, .int .u8 x.x1, .int .u8 x.x2, .int .u8 x.x3, .int .u8 x.x4, .int .u8 x.x5, .int .u8 x.x6, .int .u8 x.x7])).run Try.prog W = .ok true W := fun W => by have := eq8_any W x.val x.val rfl rfl; rw [decide_eq_true rfl] at this; exact this
          have hne8 : ∀ W, (Op.equalIn 10000 31 (.agg #[.int .u8 y0, .int .u8 y1, .int .u8 y2, .int .u8 y3, .int .u8 y4, .int .u8 y5, .int .u8 y6, .int .u8 y7]) (.agg #[.int .u8 x.x0, .int .u8 x.x1, .int .u8 x.x2, .int .u8 x.x3, .int .u8 x.x4, .int .u8 x.x5, .int .u8 x.x6, .int .u8 x.x7])).run Try.prog W = .ok false W := fun W => by have := eq8_any W [y0, y1, y2, y3, y4, y5, y6, y7] x.val rfl rfl; rw [decide_eq_false b6] at this; exact this
          have B7 := Lib.hid b7
          have B8 := Lib.hid b8
          have B9 := Lib.hid b9
          have B10 := Lib.hid b10
          have B11 := Lib.hid b11
          have B1 := Lib.hid b1
          clear b1 b2 b6 b7 b8 b9 b10 b11 hcL hpl hpx HBL hW4 hfz hbi
          obtain ⟨X, hX⟩ : ∃ X, wr.heap.size = X := ⟨_, rfl⟩
          rw [hX] at f0 f1 f2 f3 f4 f5 f6 f7 f8 f9 f10 f11 f12 f13 f14 f15 f16 f17 f18 f19 f20 f21 f22 f23 f24 f25 f26 f27 HX4 ⊢
          clear hX HTH HI1 HI2 HRG
          have HFC : Hid (At W4 X 34 (#[.int .i64 (p : Int), .int .i64 x.n.s, .int .i64 x.n.i, .int .i64 x.n.t, .int .i64 x.b, .int .u8 y0, .int .u8 y1, .int .u8 y2, .int .u8 y3, .int .u8 y4, .int .u8 y5, .int .u8 y6, .int .u8 y7, .int .u8 x.x0, .int .u8 x.x1, .int .u8 x.x2, .int .u8 x.x3, .int .u8 x.x4, .int .u8 x.x5, .int .u8 x.x6, .int .u8 x.x7, .int .i64 sh.s, .int .i64 sh.i, .int .i64 sh.t, .int .i64 wa.s, .int .i64 wa.i, .int .i64 wa.t, .int .i8 kk])) := Lib.hid HX4.out
          go_cut [92] from 24 to 184 (fun s92 wx => s92 = .bool false ∧ Grows W4 wx)
          case first =>
            as_aux_lemma =>
              go_quiet (fail)
              go_wp2_with fail
              go_meet
              case rel => exact ⟨rfl, (Grows.refl _).drewN _⟩
          case rest =>
            obtain ⟨rfl, hg⟩ := hcut
            clear f0 f1 f2 f3 f4 f5 f6 f7 f8 f9 f10 f11 f12 f13 f14 f15 f16 f17 f18 f19 f20 f21 f22 f23 f24 f25 f26 f27 c0 c1 c2 c3 c4 c5 c6 c7 c8 c9 c10 c11 c12 c13 hen he8 hne8 hp0 hpn hp1 hp2 e1 e1' e1n
            have HF5 := Lib.hid (HFC.out.grows hg)
            have HG5 := Lib.hid ((HGW.out.trans HG4.out).trans hg)
            have HRL := Lib.hid ((HR.out.grows HG.out).grows HG5.out)
            clear hg HX4 HFC HG4
            have cX := HF5.out.cell
            go_upto_region 12 with (fail)
            go_cut [119] from 24 to 184 (fun s119 wx => s119 = .bool false ∧ Grows wc wx)
            case first =>
              as_aux_lemma =>
                by_cases hsh : sh = Nm.zero
                · have hns : ∀ W, (Op.equalIn 10000 29 (.agg #[.int .i64 sh.s, .int .i64 sh.i, .int .i64 sh.t]) (.agg #[.int .i64 0, .int .i64 0, .int .i64 0])).run Try.prog W = .ok true W := fun W => by have := eqn_any W sh Nm.zero; rw [decide_eq_true hsh] at this; exact this
                  have hvz : ∀ W, (Op.equalIn 10000 31 (.agg #[.int .u8 y0, .int .u8 y1, .int .u8 y2, .int .u8 y3, .int .u8 y4, .int .u8 y5, .int .u8 y6, .int .u8 y7]) (.agg #[.int .u8 0, .int .u8 0, .int .u8 0, .int .u8 0, .int .u8 0, .int .u8 0, .int .u8 0, .int .u8 0])).run Try.prog W = .ok true W := fun W => by have := eq8_any W [y0, y1, y2, y3, y4, y5, y6, y7] [0, 0, 0, 0, 0, 0, 0, 0] rfl rfl; rw [decide_eq_true (B7.out hsh)] at this; exact this
                  clear hsh
                  go_wp2_with fail
                  go_meet
                  case rel => exact ⟨rfl, Grows.refl _⟩
                · have hns : ∀ W, (Op.equalIn 10000 29 (.agg #[.int .i64 sh.s, .int .i64 sh.i, .int .i64 sh.t]) (.agg #[.int .i64 0, .int .i64 0, .int .i64 0])).run Try.prog W = .ok false W := fun W => by have := eqn_any W sh Nm.zero; rw [decide_eq_false hsh] at this; exact this
                  have HWT := Lib.hid (B8.out hsh)
                  clear hsh
                  go_wp2_with fail
                  refine (wrote_any L n HN.out (by have := HB.out; omega) _ cap sh x.b [y0, y1, y2, y3, y4, y5, y6, y7] rfl _ HRL.out).mono ?_
                  rintro e w5 ⟨rfl, hg5⟩
                  rw [show L.any (wrN sh x.b [y0, y1, y2, y3, y4, y5, y6, y7]) = true from HWT.out]
                  go_wp2_with fail
                  go_meet
                  case rel => exact ⟨rfl, hg5⟩
            case rest =>
              obtain ⟨rfl, hg⟩ := hcut
              clear cX
              have HF6 := Lib.hid (HF5.out.grows hg)
              have HG6 := Lib.hid (HG5.out.trans hg)
              have HRM := Lib.hid (HRL.out.grows hg)
              clear hg HF5 HG5 HRL
              rename_i wc0
              have HPL : Hid (p < L.length) := Lib.hid (List.getElem?_eq_some_iff.1 B1.out).1
              have L24 : Hid (∀ W, Grows wc W → (loadVar 29 ⟨X, 24, none⟩).run Try.prog W = .ok (.agg #[.int .i64 wa.s, .int .i64 wa.i, .int .i64 wa.t]) W) := Lib.hid (ld_mid (P := Try.prog) (cs := _) (o := 24) (n := 3) HF6.out Try.underlying29 rfl (by simp) (by kernel_rfl))
              have L13 : Hid (∀ W, Grows wc W → (loadVar 31 ⟨X, 13, none⟩).run Try.prog W = .ok (.agg #[.int .u8 x.x0, .int .u8 x.x1, .int .u8 x.x2, .int .u8 x.x3, .int .u8 x.x4, .int .u8 x.x5, .int .u8 x.x6, .int .u8 x.x7]) W) := Lib.hid (ld_mid (P := Try.prog) (cs := _) (o := 13) (n := 8) HF6.out Try.underlying31 rfl (by simp) (by kernel_rfl))
              have L0 : Hid (∀ W, Grows wc W → (loadVar 3 ⟨X, 0, none⟩).run Try.prog W = .ok (.int .i64 (p : Int)) W) := Lib.hid (ld_int Try.underlying3 (HF6.out.cell 0))
              have L4 : Hid (∀ W, Grows wc W → (loadVar 3 ⟨X, 4, none⟩).run Try.prog W = .ok (.int .i64 x.b) W) := Lib.hid (ld_int Try.underlying3 (HF6.out.cell 4))
              have hpn0 : (0 : Int) ≤ (p : Int) := by omega
              have hpc : (p : Int) ≤ (cap : Int) := by have := HPL.out; have := HN.out; have := HCP.out; omega
              have hzn := zNm0
              go_upto_region 14 with (fail)
              go_cut [154] from 24 to 184 (fun s154 wx => s154 = .bool false ∧ Grows wc wx)
              case first =>
                as_aux_lemma =>
                  by_cases hwz : wa = Nm.zero
                  · have hnw : ∀ W, (Op.equalIn 10000 29 (.agg #[.int .i64 wa.s, .int .i64 wa.i, .int .i64 wa.t]) (.agg #[.int .i64 0, .int .i64 0, .int .i64 0])).run Try.prog W = .ok true W := fun W => by have := eqn_any W wa Nm.zero; rw [decide_eq_true hwz] at this; exact this
                    have C1 : ∀ W, Grows wc W → Hid (Calls Try.prog 12 #[.slice (some ⟨gL, oL, none⟩) p cap, .int .i64 x.b, .agg #[.int .u8 x.x0, .int .u8 x.x1, .int .u8 x.x2, .int .u8 x.x3, .int .u8 x.x4, .int .u8 x.x5, .int .u8 x.x6, .int .u8 x.x7]] W fun e w' => e = .returned (.bool false) ∧ Grows W w') := fun W hw => Lib.hid (by
                      have := wroteBy_any (L.take p) p (by rw [List.length_take]; have := HPL.out; omega) (by have := HPL.out; have := HN.out; have := HB.out; omega) (some ⟨gL, oL, none⟩) cap x.b [x.x0, x.x1, x.x2, x.x3, x.x4, x.x5, x.x6, x.x7] rfl W (rd_takeS (HRM.out.grows hw) (Nat.le_of_lt HPL.out))
                      rw [show (L.take p).any (wrB x.b [x.x0, x.x1, x.x2, x.x3, x.x4, x.x5, x.x6, x.x7]) = false from B9.out hwz] at this
                      exact this)
                    clear hwz
                    refine wp_region_class wc (by kernel_rfl) (by kernel_rfl) (Grows.refl _) ?_
                    repeat (first
                      | go_big_quiet_skip
                      | (go_big_quiet_want; first
                          | ((with_reducible refine quiet_load (b := X) (off := 24) ?_ L24.out ?_); rfl; (simp only [Act.put, List.setIfInBounds_toArray, List.set_cons_zero, List.set_cons_succ]); go_big_quiet_on)
                          | ((with_reducible refine quiet_load (b := X) (off := 13) ?_ L13.out ?_); rfl; (simp only [Act.put, List.setIfInBounds_toArray, List.set_cons_zero, List.set_cons_succ]); go_big_quiet_on)
                          | ((with_reducible refine quiet_load (b := X) (off := 0) ?_ L0.out ?_); rfl; (simp only [Act.put, List.setIfInBounds_toArray, List.set_cons_zero, List.set_cons_succ]); go_big_quiet_on)
                          | ((with_reducible refine quiet_load (b := X) (off := 4) ?_ L4.out ?_); rfl; (simp only [Act.put, List.setIfInBounds_toArray, List.set_cons_zero, List.set_cons_succ]); go_big_quiet_on)
                          | (go_big_quiet_op; (first
                              | go_big_quiet_on
                              | (refine ⟨_, fun _ _ => rfl, ?_⟩; go_big_quiet_on)
                              | (go_big_quiet_call (first | (intro hC; go_at_call 12; refine (C1 _ hC).out.mono ?_; rintro e w11 ⟨rfl, hg⟩; exact ⟨rfl, hC.trans hg⟩)))))))
                    refine wpQuiet_nil ?_
                    intro w6 hC6
                    go_wp2_with fail
                    go_meet
                    case rel => exact ⟨rfl, hC6⟩
                  · have hnw : ∀ W, (Op.equalIn 10000 29 (.agg #[.int .i64 wa.s, .int .i64 wa.i, .int .i64 wa.t]) (.agg #[.int .i64 0, .int .i64 0, .int .i64 0])).run Try.prog W = .ok false W := fun W => by have := eqn_any W wa Nm.zero; rw [decide_eq_false hwz] at this; exact this
                    have C1 : ∀ W, Grows wc W → Hid (Calls Try.prog 11 #[.slice (some ⟨gL, oL, none⟩) p cap, .agg #[.int .i64 wa.s, .int .i64 wa.i, .int .i64 wa.t], .int .i64 x.b, .agg #[.int .u8 x.x0, .int .u8 x.x1, .int .u8 x.x2, .int .u8 x.x3, .int .u8 x.x4, .int .u8 x.x5, .int .u8 x.x6, .int .u8 x.x7]] W fun e w' => e = .returned (.bool true) ∧ Grows W w') := fun W hw => Lib.hid (by
                      have := wrote_any (L.take p) p (by rw [List.length_take]; have := HPL.out; omega) (by have := HPL.out; have := HN.out; have := HB.out; omega) (some ⟨gL, oL, none⟩) cap wa x.b [x.x0, x.x1, x.x2, x.x3, x.x4, x.x5, x.x6, x.x7] rfl W (rd_takeS (HRM.out.grows hw) (Nat.le_of_lt HPL.out))
                      rw [show (L.take p).any (wrN wa x.b [x.x0, x.x1, x.x2, x.x3, x.x4, x.x5, x.x6, x.x7]) = true from B10.out hwz] at this
                      exact this)
                    clear hwz
                    refine wp_region_class wc (by kernel_rfl) (by kernel_rfl) (Grows.refl _) ?_
                    repeat (first
                      | go_big_quiet_skip
                      | (go_big_quiet_want; first
                          | ((with_reducible refine quiet_load (b := X) (off := 24) ?_ L24.out ?_); rfl; (simp only [Act.put, List.setIfInBounds_toArray, List.set_cons_zero, List.set_cons_succ]); go_big_quiet_on)
                          | ((with_reducible refine quiet_load (b := X) (off := 13) ?_ L13.out ?_); rfl; (simp only [Act.put, List.setIfInBounds_toArray, List.set_cons_zero, List.set_cons_succ]); go_big_quiet_on)
                          | ((with_reducible refine quiet_load (b := X) (off := 0) ?_ L0.out ?_); rfl; (simp only [Act.put, List.setIfInBounds_toArray, List.set_cons_zero, List.set_cons_succ]); go_big_quiet_on)
                          | ((with_reducible refine quiet_load (b := X) (off := 4) ?_ L4.out ?_); rfl; (simp only [Act.put, List.setIfInBounds_toArray, List.set_cons_zero, List.set_cons_succ]); go_big_quiet_on)
                          | (go_big_quiet_op; (first
                              | go_big_quiet_on
                              | (refine ⟨_, fun _ _ => rfl, ?_⟩; go_big_quiet_on)
                              | (go_big_quiet_call (first | (intro hC; go_at_call 11; refine (C1 _ hC).out.mono ?_; rintro e w11 ⟨rfl, hg⟩; exact ⟨rfl, hC.trans hg⟩)))))))
                    refine wpQuiet_nil ?_
                    intro w6 hC6
                    go_wp2_with fail
                    go_meet
                    case rel => exact ⟨rfl, hC6⟩
              case rest =>
                obtain ⟨rfl, hg⟩ := hcut
                have HF7 := Lib.hid (HF6.out.grows hg)
                have HG7 := Lib.hid (HG6.out.trans hg)
                clear hg HF6 HG6 HRM L24 L13 L0 L4 hzn hpn0 hpc
                obtain ⟨q1, q2, q3, q4⟩ := B11.out
                have hk0 : decide (kk < 0) = false := decide_eq_false (by omega)
                have hk4 : decide (4 < kk) = false := decide_eq_false (by omega)
                have hwn : ∀ W, (Op.equalIn 10000 29 (.agg #[.int .i64 wa.s, .int .i64 wa.i, .int .i64 wa.t]) (.agg #[.int .i64 x.n.s, .int .i64 x.n.i, .int .i64 x.n.t])).run Try.prog W = .ok (kk == 3) W := fun W => by
                  have := eqn_any W wa x.n
                  rw [show decide (wa = x.n) = (kk == 3) by
                    by_cases h : wa = x.n
                    · rw [decide_eq_true h, q3.2 h]; rfl
                    · rw [decide_eq_false h]; symm; simp; exact fun h3 => h (q3.1 h3)] at this
                  exact this
                go_upto_region 16 with (fail)
                go_cut [184] from 24 to 184 (fun s184 wx => s184 = .bool false ∧ Grows wc wx)
                case first =>
                  as_aux_lemma =>
                    have cX := HF7.out.cell
                    by_cases h4 : kk = 4
                    · have hwz := q4 h4
                      have hnw : ∀ W, (Op.equalIn 10000 29 (.agg #[.int .i64 wa.s, .int .i64 wa.i, .int .i64 wa.t]) (.agg #[.int .i64 0, .int .i64 0, .int .i64 0])).run Try.prog W = .ok true W := fun W => by have := eqn_any W wa Nm.zero; rw [decide_eq_true hwz] at this; exact this
                      have e3 : (kk == (3 : Int)) = false := by simp [h4]
                      have e4 : (kk == (4 : Int)) = true := by simp [h4]
                      rw [e3] at hwn
                      clear q1 q2 q3 q4 h4 hwz
                      go_quiet (fail)
                      go_wp2_with fail
                      go_meet
                      case rel => exact ⟨rfl, (Grows.refl _).drewN _⟩
                    · have e4 : (kk == (4 : Int)) = false := by simp [h4]
                      by_cases h3 : kk = 3
                      · have e3 : (kk == (3 : Int)) = true := by simp [h3]
                        rw [e3] at hwn
                        clear q1 q2 q3 q4 h4 h3
                        go_quiet (fail)
                        go_wp2_with fail
                        go_meet
                        case rel => exact ⟨rfl, (Grows.refl _).drewN _⟩
                      · have e3 : (kk == (3 : Int)) = false := by simp [h3]
                        rw [e3] at hwn
                        clear q1 q2 q3 q4 h4 h3
                        go_quiet (fail)
                        go_wp2_with fail
                        go_meet
                        case rel => exact ⟨rfl, (Grows.refl _).drewN _⟩
                case rest =>
                  obtain ⟨rfl, hg⟩ := hcut
                  have HG8 := Lib.hid (HG7.out.trans hg)
                  clear hg HF7 HG7 hk0 hk4 hwn q1 q2 q3 q4
                  go_wp2_with fail
                  go_roundg (gk - 1)
                  case measure => omega
                  exact ⟨i + 1, by omega, by go_num, HG8.out⟩
        · have : i = fs.length := by omega
          clear hlt
          go_wp2_with fail
          refine (wakes_any _).mono ?_
          rintro e w2 ⟨rfl, hg2⟩
          have HG2 := Lib.hid ((HG.out.trans HGW.out).trans hg2)
          clear hg2
          go_wp2_with fail
          go_ret
          exact ⟨rfl, HG2.out⟩
  · have hbi : (300 : Int) < (n : Int) := by omega
    clear hb
    go_enter Try.func3, Try.ntmps3
    go_wp2_with fail
    refine (wakes_any _).mono ?_
    rintro e w2 ⟨rfl, hg2⟩
    have HG2 := Lib.hid hg2
    clear hg2
    go_wp2_with fail
    go_ret
    exact ⟨rfl, HG2.out⟩
end Go.Proofs.Ytfigoeoimefngaa
