/-
  WitnessMends: the walk.
-/
import Derived.Test.YtfigoeoimefngaaWmD
import Derived.Test.YtfigoeoimefngaaWnB
import Derived.Test.YtfigoeoimefngaaWnC
import Derived.Test.YtfigoeoimefngaaWnE
namespace Go.Proofs.Ytfigoeoimefngaa
open Go.RowKit Go.Maps Go.Shelf

theorem wp_load_at {P : Program} {w : World} {o : Oper} {a : Act} {K : Act → World → Prop} {Q : Exit → Act → World → Prop} (ty : TypeId) (x : Operand) (ho : o.op = .load ty x)
    (b off : Nat) (v : Value) (hx : a.eval x = .pointer (some ⟨b, off, none⟩)) (hv : (loadVar ty ⟨b, off, none⟩).run P w = .ok v w) (hK : K (a.put o.dst v) w) : Oper.wp P o a w K Q := by
  unfold Oper.wp
  simp only [execOp, ho, hx, Instr.loadAt, Instr.sureAddr, Sem.run_bind, Sem.run_pure, Result.andThen_ok, hv]
  exact hK
theorem seen_zero (W : World) : (zeroValue 36).run Try.prog W = .ok (.agg Sn.zero.cs.toArray) W := by kernel_rfl
theorem mend_told (L : List Sn) (n : Nat) (hn : L.length = n) (hL : n ≤ 1000) (hok : ∀ x ∈ L, x.n.ok ∧ x.wk.ok) (a : Option Addr) (cap : Nat) (w : World) (hr : Rd w a (rowsOf Sn.cs L)) :
    Calls Try.prog 15 #[.slice a n cap] w fun e w' => Grows w w' ∧ ((mayB L = false ∧ e = .returned (.tuple #[.slice none 0 0, .int .i64 2])) ∨ (mayB L = true ∧ ∃ av cv, e = .returned (.tuple #[.slice av n cv, .int .i64 0]) ∧ Rd w' av (rowsOf Sn.cs (mendL L)))) := by
  refine (mend32_any L n hn hL hok a cap w hr).mono ?_
  rintro e w' ⟨hg, ⟨hm, rfl⟩ | ⟨hm, v, rfl, ho⟩⟩
  · exact ⟨hg, .inl ⟨hm, rfl⟩⟩
  · obtain ⟨av, cv, rfl, _, _, _⟩ := own_slice ho
    rw [hn] at ho ⊢
    exact ⟨hg, .inr ⟨hm, av, cv, rfl, Rd.own ho⟩⟩
set_option maxRecDepth 100000 in
set_option maxHeartbeats 8000000 in
theorem mends32_walk (L : List Sn) (n : Nat) (hn : L.length = n) (hok : ∀ x ∈ L, x.n.ok ∧ x.wk.ok) (a : Option Addr) (cap : Nat) (w : World) (hr : Rd w a (rowsOf Sn.cs L)) :
    Calls Try.prog 5 #[.slice a n cap] w fun e w' => e = .returned (.bool true) ∧ Grows w w' := by
  obtain ⟨Z, hZ⟩ : ∃ Z, ivs zer256 = Z := ⟨_, rfl⟩
  have hz := zst32
  rw [hZ] at hz
  have HZL : Hid (Z.length = 256) := Lib.hid (by rw [← hZ, ivs_len]; exact zer256_len)
  clear hZ
  have HR := Lib.hid hr
  have HN := Lib.hid hn
  have HOK := Lib.hid hok
  clear hr hn hok
  by_cases h1 : n ≤ 300
  · have h1i : decide ((n : Int) > 300) = false := decide_eq_false (by omega)
    have H1 := Lib.hid h1
    clear h1
    go_enter Try.func5, Try.ntmps5
    go_wp2_with fail
    clear h1i
    refine (mend_told L n HN.out (by have := H1.out; omega) HOK.out a cap _ HR.out).mono ?_
    rintro e w1 ⟨hg, ⟨hm, rfl⟩ | ⟨hm, av, cv, rfl, hrm⟩⟩
    · have HG1 := Lib.hid hg
      have HM := Lib.hid hm
      clear hg hm
      go_wp2_with fail
      refine (replay_told L n HN.out (by have := H1.out; omega) a cap _ (HR.out.grows HG1.out)).mono ?_
      rintro e w2 ⟨hg, Y, sb, ec, rfl, hy, hE⟩
      obtain rfl : ec = 2 := by
        rcases hE with ⟨h1, _⟩ | ⟨_, h2⟩
        · rw [HM.out] at h1; cases h1
        · exact h2
      have HG2 := Lib.hid (HG1.out.trans hg)
      have HT2 : Hid ((w2.alloc (.cells Z.toArray 46)).there w2.heap.size 0 (ivs Y).toArray.size) := Lib.hid ((At.new w2 _ _).there 0 _ (by rw [List.size_toArray, List.size_toArray, HZL.out, ivs_len, hy]; exact Nat.le_refl _))
      have HI2 : Hid ((Try.prog.info? 46).map (·.size) = some (ivs Y).toArray.size) := Lib.hid (by rw [List.size_toArray, ivs_len, hy]; exact info_st32)
      have HG3 : Hid (Grows w ((w2.alloc (.cells Z.toArray 46)).setCells w2.heap.size 0 (ivs Y))) := Lib.hid (Grows.setCells HG2.out.size _ _ (HG2.out.alloc _))
      clear hg hy hE
      go_wp2_with (with_reducible refine wpList_store_mid (op := ⟨none, .store 46 (.tmp 5) (.tmp 30), _, _, _, none⟩) rfl 46 (.tmp 5) (.tmp 30) rfl w2.heap.size 0 (ivs Y).toArray ?a1 ?a2 HT2.out HI2.out (ivs_all Y) ?_)
      all_goals try rfl
      refine (wakes_any _).mono ?_
      rintro e w9 ⟨rfl, hg9⟩
      have HG9 := Lib.hid (HG3.out.trans hg9)
      clear hg9
      go_wp2_with fail
      go_ret
      exact ⟨rfl, HG9.out⟩
    · have HG1 := Lib.hid hg
      have HM := Lib.hid hm
      have HRM := Lib.hid hrm
      clear hg hm hrm
      obtain ⟨M, hM⟩ : ∃ M, mendL L = M := ⟨_, rfl⟩
      have HAL : Hid (Alike L M) := Lib.hid (by rw [← hM]; exact mend_alike L)
      have HMN : Hid (M.length = n) := Lib.hid (by rw [HAL.out.len, HN.out])
      have HMM : Hid (mayB M = true) := Lib.hid (by rw [mayB_alike HAL.out, HM.out])
      have HMO : Hid (∀ y ∈ M, y.n.ok ∧ y.wk.ok) := Lib.hid (by rw [← hM]; exact mend_ok HM.out HOK.out)
      have HMW : Hid (wrongF M = []) := Lib.hid (by rw [← hM]; exact (mend_wrong HM.out HOK.out).2)
      have HCN : Hid (chN L M n = (wrongF L).length) := Lib.hid (by rw [← hM, ← HN.out]; exact mend_count HM.out HOK.out)
      rw [hM] at HRM
      clear hM
      go_wp2_with fail
      refine (replay_told L n HN.out (by have := H1.out; omega) a cap _ (HR.out.grows HG1.out)).mono ?_
      rintro e w2 ⟨hg, Y, sb, ec, rfl, hy, hE⟩
      obtain ⟨hY, rfl⟩ : Y = blkF L ∧ ec = 0 := by
        rcases hE with ⟨_, h2, _, h4⟩ | ⟨h1, _⟩
        · exact ⟨h2, h4⟩
        · rw [HM.out] at h1; cases h1
      have HYB := Lib.hid hY
      have HYL := Lib.hid hy
      have HG2 := Lib.hid (HG1.out.trans hg)
      have HRM2 := Lib.hid (HRM.out.grows hg)
      have HT2 : Hid ((w2.alloc (.cells Z.toArray 46)).there w2.heap.size 0 (ivs Y).toArray.size) := Lib.hid ((At.new w2 _ _).there 0 _ (by rw [List.size_toArray, List.size_toArray, HZL.out, ivs_len, hy]; exact Nat.le_refl _))
      have HI2 : Hid ((Try.prog.info? 46).map (·.size) = some (ivs Y).toArray.size) := Lib.hid (by rw [List.size_toArray, ivs_len, hy]; exact info_st32)
      clear hg hy hE hY
      go_wp2_with (with_reducible refine wpList_store_mid (op := ⟨none, .store 46 (.tmp 5) (.tmp 30), _, _, _, none⟩) rfl 46 (.tmp 5) (.tmp 30) rfl w2.heap.size 0 (ivs Y).toArray ?b1 ?b2 HT2.out HI2.out (ivs_all Y) ?_)
      all_goals try rfl
      have hg3 : Grows w2 ((w2.alloc (.cells Z.toArray 46)).setCells w2.heap.size 0 (ivs Y)) := Grows.setCells (Nat.le_refl _) _ _ ((Grows.refl _).alloc _)
      have hA3 : At ((w2.alloc (.cells Z.toArray 46)).setCells w2.heap.size 0 (ivs Y)) w2.heap.size 46 (ivs Y).toArray := At.all (cs := Z) (At.new w2 _ _) (by rw [ivs_len, HYL.out, HZL.out])
      generalize (w2.alloc (.cells Z.toArray 46)).setCells w2.heap.size 0 (ivs Y) = w3 at *
      have HG3 := Lib.hid (HG2.out.trans hg3)
      have HRM3 := Lib.hid (HRM2.out.grows hg3)
      have HA3 := Lib.hid hA3
      clear hg3 hA3 HT2 HG2 HRM2 HRM HG1
      refine (replay_told M n HMN.out (by have := H1.out; omega) av cv _ HRM3.out).mono ?_
      rintro e w4 ⟨hg, Y2, sb2, ec2, rfl, hy, hE⟩
      obtain ⟨rfl, rfl, rfl⟩ : Y2 = Y ∧ sb2 = true ∧ ec2 = 0 := by
        rcases hE with ⟨_, h2, h3, h4⟩ | ⟨h1, _⟩
        · exact ⟨by rw [h2, HYB.out, blkF_alike HAL.out], by rw [h3, ser_wrong, HMW.out]; rfl, h4⟩
        · rw [HMM.out] at h1; cases h1
      have HG4 := Lib.hid (HG3.out.trans hg)
      have HRM4 := Lib.hid (HRM3.out.grows hg)
      have HA4 := Lib.hid (HA3.out.grows hg)
      have HT4 : Hid ((w4.alloc (.cells Z.toArray 46)).there w4.heap.size 0 (ivs Y2).toArray.size) := Lib.hid ((At.new w4 _ _).there 0 _ (by rw [List.size_toArray, List.size_toArray, HZL.out, ivs_len, hy]; exact Nat.le_refl _))
      obtain ⟨w5, hw5⟩ : ∃ w5, (w4.alloc (.cells Z.toArray 46)).setCells w4.heap.size 0 (ivs Y2) = w5 := ⟨_, rfl⟩
      have hg5 : Grows w4 w5 := by rw [← hw5]; exact Grows.setCells (Nat.le_refl _) _ _ ((Grows.refl _).alloc _)
      have HA5 : Hid (At w5 w4.heap.size 46 (ivs Y2).toArray) := Lib.hid (by rw [← hw5]; exact At.all (cs := Z) (At.new w4 _ _) (by rw [ivs_len, HYL.out, HZL.out]))
      have HB5 := Lib.hid (HA4.out.grows hg5)
      have HG5 := Lib.hid (HG4.out.trans hg5)
      have HRM5 := Lib.hid (HRM4.out.grows hg5)
      have he := fun W => b256_self HYL.out W
      have HL8 : Hid ((loadVar 46 ⟨w4.heap.size, 0, none⟩).run Try.prog w5 = .ok (.agg (ivs Y2).toArray) w5) := Lib.hid (run_loadVar_row w5 _ _ _ _ (0, 0) _ HA5.out Try.underlying46 rfl HI2.out)
      have HL5 : Hid ((loadVar 46 ⟨w2.heap.size, 0, none⟩).run Try.prog w5 = .ok (.agg (ivs Y2).toArray) w5) := Lib.hid (run_loadVar_row w5 _ _ _ _ (0, 0) _ HB5.out Try.underlying46 rfl HI2.out)
      clear hg hy hE hg5 HG3 HRM3 HA3 HA4 HRM4
      go_wp2_with ((with_reducible refine wpList_store_mid (op := ⟨none, .store 46 (.tmp 8) (.tmp 53), _, _, _, none⟩) rfl 46 (.tmp 8) (.tmp 53) rfl w4.heap.size 0 (ivs Y2).toArray ?c1 ?c2 HT4.out HI2.out (ivs_all Y2) ?_))
      all_goals try rfl
      refine wp_load_at 46 (.tmp 8) rfl w4.heap.size 0 (.agg (ivs Y2).toArray) rfl HL8.out ?_
      go_wp2_with fail
      refine wp_load_at 46 (.tmp 5) rfl w2.heap.size 0 (.agg (ivs Y2).toArray) rfl HL5.out ?_
      clear HL8 HL5 HA5 HB5 HI2 HT4 hw5 HYB HYL
      go_wp2_with fail
      clear he
      go_loopg [11, 12] n (fun gk v11 v12 wr => ∃ i : Nat, gk + i = n ∧ v12 = .int .i64 (i : Int) ∧ v11 = .int .i64 ((chN L M i : Nat) : Int) ∧ Grows w5 wr)
      case atStart => exact ⟨0, by omega, rfl, rfl, Grows.refl _⟩
      case round =>
        obtain ⟨i, hi, rfl, rfl, hg⟩ := hrel
        have HGW := Lib.hid hg
        clear hg
        by_cases hlt : i < n
        · have hil : i < L.length := by rw [HN.out]; exact hlt
          have hx : L[i]? = some L[i] := List.getElem?_eq_getElem hil
          obtain ⟨y, hy, hal⟩ := HAL.out.get hx
          generalize L[i] = x at *
          obtain ⟨g, off, rfl, hgx, hrx⟩ := ld_seen (((HR.out.grows HG5.out)).grows HGW.out) hx
          obtain ⟨gm, om, rfl, hgy, hry⟩ := ld_seen (HRM5.out.grows HGW.out) hy
          have HLX : Hid (∀ W, Grows wr W → (loadVar 36 ⟨g, off + i * 14, none⟩).run Try.prog W = .ok (.agg x.cs.toArray) W) := Lib.hid (ld_range hrx hgx Try.underlying36 rfl (by kernel_rfl))
          have HLY : Hid (∀ W, Grows wr W → (loadVar 36 ⟨gm, om + i * 14, none⟩).run Try.prog W = .ok (.agg y.cs.toArray) W) := Lib.hid (ld_range hry hgy Try.underlying36 rfl (by kernel_rfl))
          have heq := sn_eq y x
          have hck := chN_more L M i
          have hcl := chN_le L M i
          have hcb : chB L M i = !decide (y = x) := by unfold chB; rw [hx, hy]; simp
          have hlt' : (i : Int) < (n : Int) := by omega
          have hi0 : (0 : Int) ≤ (i : Int) := by omega
          have hwr : IntKind.i64.wrap ((i : Int) + 1) = (i : Int) + 1 := IntWalk.i64_in _ (by have := H1.out; omega)
          obtain ⟨c, hc⟩ : ∃ c, chN L M i = c := ⟨_, rfl⟩
          rw [hc] at hck hcl ⊢
          have hwc : IntKind.i64.wrap ((c : Int) + 1) = (c : Int) + 1 := IntWalk.i64_in _ (by have := H1.out; omega)
          by_cases hyx : y = x
          · rw [decide_eq_true hyx] at heq hcb
            rw [hcb] at hck
            have HCK := Lib.hid hck
            clear hx hy hal hgx hrx hgy hry hck hcl hcb hyx hc
            generalize x.cs.toArray = X at *
            generalize y.cs.toArray = Y at *
            go_upto_region 14 with (fail)
            refine wp_region_class wr (by kernel_rfl) (by kernel_rfl) (Grows.refl _) ?_
            repeat (first
              | go_big_quiet_skip
              | (go_big_quiet_want; first
                  | ((with_reducible refine quiet_load (b := g) (off := off + i * 14) ?_ HLX.out ?_); rfl; (simp only [Act.put, List.setIfInBounds_toArray, List.set_cons_zero, List.set_cons_succ]); go_big_quiet_on)
                  | ((with_reducible refine quiet_load (b := gm) (off := om + i * 14) ?_ HLY.out ?_); rfl; (simp only [Act.put, List.setIfInBounds_toArray, List.set_cons_zero, List.set_cons_succ]); go_big_quiet_on)
                  | (go_big_quiet_op; (first
                      | go_big_quiet_on
                      | (refine ⟨_, fun _ _ => rfl, ?_⟩; go_big_quiet_on)))))
            refine wpQuiet_nil ?_
            intro w6 hC6
            have HC6 := Lib.hid (HGW.out.trans hC6)
            clear hC6
            go_wp2_with fail
            go_roundg (gk - 1)
            case measure => omega
            exact ⟨i + 1, by omega, rfl, by rw [HCK.out]; rfl, HC6.out⟩
          · rw [decide_eq_false hyx] at heq hcb
            rw [hcb] at hck
            have HCK := Lib.hid hck
            have hk1 : x.k = 1 := by
              cases Int.decEq x.k 1 with
              | isTrue h => exact h
              | isFalse h => exact absurd (hal.2.2.2.2 h) hyx
            have HPT := Lib.hid (put_alk hal)
            have HRX := Lib.hid hrx
            have HGX := Lib.hid hgx
            have HK1 := Lib.hid hk1
            have HRY := Lib.hid hry
            have HGY := Lib.hid hgy
            clear hx hy hal hgx hrx hgy hry hck hcl hcb hyx hc hk1
            have HLXW := HLX
            have hzs := seen_zero
            obtain ⟨XC, hXC⟩ : ∃ XC, x.cs.toArray = XC := ⟨_, rfl⟩
            obtain ⟨YC, hYC⟩ : ∃ YC, y.cs.toArray = YC := ⟨_, rfl⟩
            have HXC := Lib.hid hXC
            have HYC := Lib.hid hYC
            rw [hXC] at heq HLX
            rw [hYC] at heq HLY
            clear hXC hYC
            go_upto_region 14 with (fail)
            refine wp_region_class wr (by kernel_rfl) (by kernel_rfl) (Grows.refl _) ?_
            repeat (first
              | go_big_quiet_skip
              | (go_big_quiet_want; first
                  | ((with_reducible refine quiet_load (b := g) (off := off + i * 14) ?_ HLX.out ?_); rfl; (simp only [Act.put, List.setIfInBounds_toArray, List.set_cons_zero, List.set_cons_succ]); go_big_quiet_on)
                  | ((with_reducible refine quiet_load (b := gm) (off := om + i * 14) ?_ HLY.out ?_); rfl; (simp only [Act.put, List.setIfInBounds_toArray, List.set_cons_zero, List.set_cons_succ]); go_big_quiet_on)
                  | (go_big_quiet_op; (first
                      | go_big_quiet_on
                      | (refine ⟨_, fun _ _ => rfl, ?_⟩; go_big_quiet_on)))))
            refine wpQuiet_nil ?_
            intro w6 hC6
            have HR6 : Hid (w6.rangeAt gm (om + i * 14) y.cs) := Lib.hid (fun j v hv => (hC6.cell _ _ HGY.out).trans (HRY.out j v hv))
            obtain ⟨w7, hw7⟩ : ∃ w7, (w6.alloc (.cells Sn.zero.cs.toArray 36)).setCells w6.heap.size 0 y.cs = w7 := ⟨_, rfl⟩
            have hg7 : Grows w6 w7 := by rw [← hw7]; exact Grows.setCells (Nat.le_refl _) _ _ ((Grows.refl _).alloc _)
            have hA7 : At w7 w6.heap.size 36 y.cs.toArray := by rw [← hw7]; exact At.all (cs := Sn.zero.cs.toArray.toList) (At.new w6 _ _) rfl
            have HR7 : Hid (w7.rangeAt g (off + i * 14 + 5) (ivs x.val)) := Lib.hid (range_val (fun j v hv => ((hC6.trans hg7).cell _ _ HGX.out).trans (HRX.out j v hv)))
            have HT6 : Hid ((w6.alloc (.cells Sn.zero.cs.toArray 36)).there w6.heap.size 0 y.cs.toArray.size) := Lib.hid ((At.new w6 _ _).there 0 _ (Nat.le_of_eq rfl))
            have HT7 : Hid (w7.there w6.heap.size 5 (ivs x.val).toArray.size) := Lib.hid (hA7.there 5 _ (Nat.le_of_ble_eq_true rfl))
            obtain ⟨w8, hw8⟩ : ∃ w8, w7.setCells w6.heap.size 5 (ivs x.val) = w8 := ⟨_, rfl⟩
            have hg8 : Grows w6 w8 := by rw [← hw8]; exact Grows.setCells (Nat.le_refl _) _ _ hg7
            have hA8 : At w8 w6.heap.size 36 x.cs.toArray := by
              have := At.setCells (ivs x.val) 5 hA7 (by rw [ivs_len, Sn.cs_len]; exact Nat.le_of_ble_eq_true rfl)
              rw [cs_put y x.val rfl, HPT.out] at this
              rw [← hw8]; exact this
            have HI14 : Hid ((Try.prog.info? 36).map (·.size) = some y.cs.toArray.size) := Lib.hid (by kernel_rfl)
            have HI14' : Hid ((Try.prog.info? 36).map (·.size) = some y.cs.length) := Lib.hid (by kernel_rfl)
            have HI8 : Hid ((Try.prog.info? 31).map (·.size) = some (ivs x.val).toArray.size) := Lib.hid (by kernel_rfl)
            have HI8' : Hid ((Try.prog.info? 31).map (·.size) = some (ivs x.val).length) := Lib.hid (by kernel_rfl)
            have HO14 : Hid (y.cs.toArray.all (·.oneCell') = true) := Lib.hid (all_oneCell_toArray (fun v hv => by have := seen_one [y]; rw [rows_one] at this; exact this v hv))
            have HC8 := Lib.hid ((HGW.out.trans hC6).trans hg8)
            have HLX8 : Hid (∀ W, Grows w8 W → (loadVar 36 ⟨g, off + i * 14, none⟩).run Try.prog W = .ok (.agg XC) W) := Lib.hid (fun W h => HLX.out W ((hC6.trans hg8).trans h))
            have HLL8 : Hid (∀ W, Grows w8 W → (loadVar 36 ⟨w6.heap.size, 0, none⟩).run Try.prog W = .ok (.agg XC) W) := Lib.hid (by rw [← HXC.out]; exact ld_row hA8 Try.underlying36 rfl (by kernel_rfl))
            have HLK8 : Hid (∀ W, Grows w8 W → (loadVar 32 ⟨g, off + i * 14, none⟩).run Try.prog W = .ok (.int .i8 1) W) := Lib.hid (ld_int Try.underlying32 (by
              have := ((hC6.trans hg8).cell _ (off + i * 14 + 0) HGX.out).trans (HRX.out 0 (.int .i8 x.k) rfl)
              rw [HK1.out] at this
              exact this))
            have HEX : Hid (∀ W, (Op.equalIn 10000 36 (.agg XC) (.agg XC)).run Try.prog W = .ok true W) := Lib.hid (fun W => by have := sn_eq x x W; rwa [decide_eq_true rfl, HXC.out] at this)
            clear hC6 hg7 hA7 hg8 hA8
            go_upto_region 18 with (first | (with_reducible refine wpList_load_mid (op := ⟨some 92, .load 36 (.tmp 91), _, _, _, none⟩) rfl 36 (.tmp 91) rfl gm (om + i * 14) ?d1 y.cs _ HR6.out Try.underlying36 rfl HI14'.out ?_) | (with_reducible refine wpList_store_mid (op := ⟨none, .store 36 (.tmp 13) (.tmp 92), _, _, _, none⟩) rfl 36 (.tmp 13) (.tmp 92) rfl w6.heap.size 0 y.cs.toArray ?d2 ?d3 HT6.out HI14.out HO14.out ?_) | (with_reducible refine wpList_load_mid (op := ⟨some 97, .load 31 (.tmp 96), _, _, _, none⟩) rfl 31 (.tmp 96) rfl g (off + i * 14 + 5) ?d4 (ivs x.val) _ HR7.out Try.underlying31 rfl HI8'.out ?_) | (with_reducible refine wpList_store_mid (op := ⟨none, .store 31 (.tmp 98) (.tmp 97), _, _, _, none⟩) rfl 31 (.tmp 98) (.tmp 97) rfl w6.heap.size 5 (ivs x.val).toArray ?d5 ?d6 HT7.out HI8.out (ivs_all x.val) ?_))
            all_goals try rfl
            clear HR6 HR7 HT6 HT7 HI14 HI14' HI8 HI8' HO14 hw7 hw8 hzs heq HLY HXC HYC HRX HRY HPT HK1 HLX HLXW
            have heq := HEX.out
            refine wp_region_class w8 (by kernel_rfl) (by kernel_rfl) (Grows.refl _) ?_
            repeat (first
              | go_big_quiet_skip
              | (go_big_quiet_want; first
                  | ((with_reducible refine quiet_load (b := w6.heap.size) (off := 0) ?_ HLL8.out ?_); rfl; (simp only [Act.put, List.setIfInBounds_toArray, List.set_cons_zero, List.set_cons_succ]); go_big_quiet_on)
                  | ((with_reducible refine quiet_load (b := g) (off := off + i * 14) ?_ HLX8.out ?_); rfl; (simp only [Act.put, List.setIfInBounds_toArray, List.set_cons_zero, List.set_cons_succ]); go_big_quiet_on)
                  | ((with_reducible refine quiet_load (b := g) (off := off + i * 14) ?_ HLK8.out ?_); rfl; (simp only [Act.put, List.setIfInBounds_toArray, List.set_cons_zero, List.set_cons_succ]); go_big_quiet_on)
                  | (go_big_quiet_op; (first
                      | go_big_quiet_on
                      | (refine ⟨_, fun _ _ => rfl, ?_⟩; go_big_quiet_on)))))
            refine wpQuiet_nil ?_
            intro w9 hC9
            have HC9 := Lib.hid (HC8.out.trans hC9)
            clear hC9 heq
            go_wp2_with fail
            go_roundg (gk - 1)
            case measure => omega
            exact ⟨i + 1, by omega, rfl, by rw [HCK.out]; rfl, HC9.out⟩
        · have : i = n := by omega
          subst this
          clear hlt
          have hcn : chN L M i = (wrongF L).length := HCN.out
          rw [hcn]
          obtain ⟨cn, hcn2⟩ : ∃ cn, (wrongF L).length = cn := ⟨_, rfl⟩
          have HCL := Lib.hid hcn2
          rw [hcn2]
          clear hcn hcn2
          go_wp2_with fail
          refine (wrong_told L i HN.out (by have := H1.out; omega) HOK.out a cap _ ((HR.out.grows HG5.out).grows HGW.out)).mono ?_
          rintro e w6 ⟨hg, av2, cv2, fs, ec, rfl, _, ht⟩
          obtain ⟨hfl, rfl⟩ : fs.length = cn ∧ ec = 0 := by
            rcases ht.is with ⟨_, h2, h3⟩ | ⟨h1, _⟩
            · exact ⟨by rw [h2, HCL.out], h3⟩
            · rw [HM.out] at h1; cases h1
          rw [hfl]
          have HG6 := Lib.hid ((HG5.out.trans HGW.out).trans hg)
          have HRM6 := Lib.hid ((HRM5.out.grows HGW.out).grows hg)
          clear hg ht hfl
          go_wp2_with fail
          refine (wrong_told M i HMN.out (by have := H1.out; omega) HMO.out av cv _ HRM6.out).mono ?_
          rintro e w7 ⟨hg, av3, cv3, fs3, ec3, rfl, _, ht⟩
          obtain ⟨rfl, rfl⟩ : fs3 = [] ∧ ec3 = 0 := by
            rcases ht.is with ⟨_, h2, h3⟩ | ⟨h1, _⟩
            · exact ⟨by rw [h2, HMW.out], h3⟩
            · rw [HMM.out] at h1; cases h1
          have HG7 := Lib.hid (HG6.out.trans hg)
          clear hg ht
          go_wp2_with fail
          refine (wakes_any _).mono ?_
          rintro e w9 ⟨rfl, hg9⟩
          have HG9 := Lib.hid (HG7.out.trans hg9)
          clear hg9
          go_wp2_with fail
          go_ret
          exact ⟨rfl, HG9.out⟩
  · have h1i : decide ((n : Int) > 300) = true := decide_eq_true (by omega)
    clear h1
    go_enter Try.func5, Try.ntmps5
    go_wp2_with fail
    refine (wakes_any _).mono ?_
    rintro e w9 ⟨rfl, hg9⟩
    go_wp2_with fail
    go_ret
    exact ⟨rfl, hg9⟩
end Go.Proofs.Ytfigoeoimefngaa
