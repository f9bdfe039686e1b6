/-
  The reference's was and kind.
-/
import Derived.Test.YtfigoeoimefngaaWqA
namespace Go.Proofs.Ytfigoeoimefngaa
open Go.RowKit Go.Maps Go.Shelf

theorem lastN_take {L : List Sn} {k : Nat} {x : Sn} (h : L[k]? = some x) (q : Wk) : lastN (L.take (k + 1)) q = if x.k = 2 ∧ x.wk = q then x.n else lastN (L.take k) q := by
  rw [List.take_add_one, h, Option.toList_some, lastN_snoc]
set_option maxRecDepth 100000 in
set_option maxHeartbeats 8000000 in
theorem was32_any (L : List Sn) (n : Nat) (hn : L.length = n) (hL : n ≤ 1048576) (a : Option Addr) (cap p : Nat) (z : Sn) (hp : L[p]? = some z) (w : World) (hr : Rd w a (rowsOf Sn.cs L)) :
    Calls Try.prog 39 #[.slice a n cap, .int .i64 (p : Int)] w fun e w' => e = .returned (lastN (L.take p) z.wk).v ∧ Grows w w' := by
  have HR := Lib.hid hr
  have HN := Lib.hid hn
  have HNL := Lib.hid hL
  have HP := Lib.hid hp
  have hpn : p < n := by rw [← hn]; exact (List.getElem?_eq_some_iff.1 hp).1
  have HMN := Lib.hid (At.new w 29 #[.int .i64 0, .int .i64 0, .int .i64 0])
  have hwp : IntKind.i64.wrap ((p : Int) - 1) = (p : Int) - 1 := IntWalk.i64_in _ (by omega)
  obtain ⟨m, hm⟩ : ∃ m, lastN (L.take p) z.wk = m := ⟨_, rfl⟩
  have HM := Lib.hid hm
  rw [hm]
  clear hr hn hL hp hm
  have hpi : (p : Int) < (n : Int) := by omega
  have hp0 : (0 : Int) ≤ (p : Int) := by omega
  unfold Nm.v
  go_enter Try.func39, Try.ntmps39
  go_wp2_with fail
  clear hwp
  go_loopg [5] p (fun gk v5 wr => ∃ k : Nat, gk + (p - k) = p ∧ k ≤ p ∧ v5 = .int .i64 ((k : Int) - 1) ∧ Grows w wr ∧ lastN (L.take k) z.wk = m ∧ At wr w.heap.size 29 #[.int .i64 0, .int .i64 0, .int .i64 0])
  case atStart => exact ⟨p, by omega, Nat.le_refl _, rfl, (Grows.refl _).alloc _, HM.out, HMN.out⟩
  case round =>
    obtain ⟨k, hk, hkp, rfl, hg, h0, hmm⟩ := hrel
    have HGW := Lib.hid hg
    have HAX := Lib.hid hmm
    have H0 := Lib.hid h0
    clear hg h0 hmm
    cases k with
    | zero =>
      have H00 : Hid (m = Nm.zero) := Lib.hid (by rw [← H0.out]; rfl)
      have ca := HAX.out.cell
      have cf := HAX.out.frozen
      rw [show (((0 : Nat) : Int) - 1) = -1 by omega]
      clear hk hkp
      go_wp2_with fail
      have hT := (((Turns.refl (fun i => i = w.heap.size) wr).set (g := w.heap.size) (.inl rfl) 0 (.int .i64 0)).set (g := w.heap.size) (.inl rfl) 1 (.int .i64 0)).set (g := w.heap.size) (.inl rfl) 2 (.int .i64 0)
      refine bodyPost_ret (results_cell_row Try.results39 _ _ w.heap.size 29 #[.int .i64 0, .int .i64 0, .int .i64 0] (0, 0) _ rfl (((HAX.out.set 0 (.int .i64 0)).set 1 (.int .i64 0)).set 2 (.int .i64 0)) Try.underlying29 rfl (by kernel_rfl)) rfl ⟨by rw [H00.out]; rfl, hT.low HGW.out (fun i hi => by omega)⟩
    | succ j =>
      have hjl : j < L.length := by rw [HN.out]; omega
      have hpl : p < L.length := by rw [HN.out]; exact hpn
      have hzz : L[p] = z := by have := HP.out; rw [List.getElem?_eq_getElem hpl] at this; injection this
      obtain ⟨g, off, hag, hgw, hc⟩ := cells14 (HR.out.grows HGW.out) hpl
      obtain ⟨g2, off2, hag2, hgw2, hc2⟩ := cells14 (HR.out.grows HGW.out) hjl
      subst hag
      injection hag2 with hag2
      injection hag2 with e1 e2
      subst e1 e2
      rw [hzz] at hc
      obtain ⟨z0, z1, z2, z3, z4, z5, z6, z7, z8, z9, z10, z11, z12, z13⟩ := cells14_at hc
      have HXK : Hid (L[j]? = some L[j]) := Lib.hid (List.getElem?_eq_getElem hjl)
      generalize L[j] = x at *
      obtain ⟨c0, c1, c2, c3, c4, c5, c6, c7, c8, c9, c10, c11, c12, c13⟩ := cells14_at hc2
      have HLK := Lib.hid (lastN_take HXK.out z.wk)
      have he : ∀ W, (Op.equalIn 10000 31 (.agg #[.int .u8 x.x0, .int .u8 x.x1, .int .u8 x.x2, .int .u8 x.x3, .int .u8 x.x4, .int .u8 x.x5, .int .u8 x.x6, .int .u8 x.x7]) (.agg #[.int .u8 z.x0, .int .u8 z.x1, .int .u8 z.x2, .int .u8 z.x3, .int .u8 z.x4, .int .u8 z.x5, .int .u8 z.x6, .int .u8 z.x7])).run Try.prog W = .ok (decide (x.val = z.val)) W := fun W => eq8_any W x.val z.val rfl rfl
      have hji : (j : Int) < (n : Int) := by omega
      have hj0 : (0 : Int) ≤ (j : Int) := by omega
      have hwj : IntKind.i64.wrap ((j : Int) - 1) = (j : Int) - 1 := IntWalk.i64_in _ (by have := HNL.out; omega)
      rw [show (((j + 1 : Nat) : Int) - 1) = (j : Int) by omega]
      clear hc hc2 hjl hpl hzz hgw hgw2
      by_cases h1 : x.k = 2
      · have e1 : (x.k == (2 : Int)) = true := by simp [h1]
        by_cases h2 : x.b = z.b
        · have e2 : (x.b == z.b) = true := by simp [h2]
          by_cases h3 : x.val = z.val
          · rw [decide_eq_true h3] at he
            have HX : Hid (m = x.n) := Lib.hid (by rw [← H0.out, HLK.out, if_pos ⟨h1, wk_eq.2 ⟨h2, h3⟩⟩])
            have ca := HAX.out.cell
            have cf := HAX.out.frozen
            clear h1 h2 h3
            go_wp2_with fail
            go_quiet (fail)
            go_wp2_with fail
            have hA' := HAX.out.grows ((Grows.refl wr).drewN nq)
            have hT := (((Turns.refl (fun i => i = w.heap.size) (wr.drewN nq)).set (g := w.heap.size) (.inl rfl) 0 (.int .i64 x.n.s)).set (g := w.heap.size) (.inl rfl) 1 (.int .i64 x.n.i)).set (g := w.heap.size) (.inl rfl) 2 (.int .i64 x.n.t)
            refine bodyPost_ret (results_cell_row Try.results39 _ _ w.heap.size 29 #[.int .i64 x.n.s, .int .i64 x.n.i, .int .i64 x.n.t] (0, 0) _ rfl (((hA'.set 0 (.int .i64 x.n.s)).set 1 (.int .i64 x.n.i)).set 2 (.int .i64 x.n.t)) Try.underlying29 rfl (by kernel_rfl)) rfl ⟨by rw [HX.out], hT.low (HGW.out.drewN nq) (fun i hi => by omega)⟩
          · rw [decide_eq_false h3] at he
            have HS : Hid (lastN (L.take (j + 1)) z.wk = lastN (L.take j) z.wk) := Lib.hid (by rw [HLK.out, if_neg (fun h => h3 (wk_eq.1 h.2).2)])
            clear h1 h2 h3
            go_wp2_with fail
            go_quiet (fail)
            go_wp2_with fail
            go_roundg (gk - 1)
            case measure => omega
            exact ⟨j, by omega, by omega, rfl, HGW.out.drewN _, by rw [← HS.out]; exact H0.out, HAX.out.grows ((Grows.refl _).drewN _)⟩
        · have e2 : (x.b == z.b) = false := by simp [h2]
          have HS : Hid (lastN (L.take (j + 1)) z.wk = lastN (L.take j) z.wk) := Lib.hid (by rw [HLK.out, if_neg (fun h => h2 (wk_eq.1 h.2).1)])
          clear h1 h2
          go_wp2_with fail
          go_quiet (fail)
          go_wp2_with fail
          go_roundg (gk - 1)
          case measure => omega
          exact ⟨j, by omega, by omega, rfl, HGW.out.drewN _, by rw [← HS.out]; exact H0.out, HAX.out.grows ((Grows.refl _).drewN _)⟩
      · have e1 : (x.k == (2 : Int)) = false := by simp [h1]
        have HS : Hid (lastN (L.take (j + 1)) z.wk = lastN (L.take j) z.wk) := Lib.hid (by rw [HLK.out, if_neg (fun h => h1 h.1)])
        clear h1
        go_wp2_with fail
        go_quiet (fail)
        go_wp2_with fail
        go_roundg (gk - 1)
        case measure => omega
        exact ⟨j, by omega, by omega, rfl, HGW.out.drewN _, by rw [← HS.out]; exact H0.out, HAX.out.grows ((Grows.refl _).drewN _)⟩
def kindR (D : List Nm) (f : Ft) : Int :=
  if f.was = Nm.zero then (if f.got = [0, 0, 0, 0, 0, 0, 0, 0] then 0 else 4)
  else if f.was = f.n then 3 else if ordI D f.was < 0 then 2 else if ordI D f.was < ordI D f.n then 0 else 1
theorem rk_ord : ∀ (D : List Nm), D.Nodup → ∀ m, (rk D m : Int) = ordI D m + 1 := by
  have key : ∀ n (D : List Nm), D.length = n → D.Nodup → ∀ m, (rk D m : Int) = ordI D m + 1 := by
    intro n
    induction n with
    | zero => intro D h _ m; rw [List.eq_nil_of_length_eq_zero h]; rfl
    | succ n ih =>
      intro D h hn m
      have hne : D ≠ [] := by rintro rfl; simp at h
      have e := List.dropLast_concat_getLast hne
      generalize D.dropLast = A at *
      generalize D.getLast hne = x at *
      subst e
      rw [List.nodup_append] at hn
      have hl : A.length = n := by simpa using h
      have h1 := ih A hl hn.1 m
      rw [rk_snoc]
      by_cases hx : x = m
      · rw [if_pos hx]
        have hA : A.any (fun n => decide (n = m)) = false := by
          rw [List.any_eq_false]
          intro y hy e2
          have e3 : y = m := of_decide_eq_true e2
          exact hn.2.2 y hy x (by simp) (e3.trans hx.symm)
        rw [ord_hit (i := A.length) (x := x) (by simp) (by rw [List.take_left']; exact hA; rfl) hx]
        omega
      · rw [if_neg hx, h1]
        congr 1
        unfold ordI
        have e1 : (A ++ [x]).any (fun n => decide (n = m)) = A.any (fun n => decide (n = m)) := by simp [hx]
        rw [e1]
        by_cases ha : A.any (fun n => decide (n = m)) = true
        · rw [if_pos ha, if_pos ha]
          congr 1
          rw [List.findIdx_append]
          have : A.findIdx (fun n => decide (n = m)) < A.length := List.findIdx_lt_length.2 (by simpa using ha)
          rw [if_pos this]
        · rw [if_neg ha, if_neg ha]
  exact fun D => key _ D rfl
theorem kind_same {D : List Nm} (h : D.Nodup) (f : Ft) : kindR D f = kindF D f := by
  unfold kindR kindF
  have h1 := rk_ord D h f.was
  have h2 := rk_ord D h f.n
  by_cases a1 : f.was = Nm.zero
  · rw [if_pos a1, if_pos a1]
  · rw [if_neg a1, if_neg a1]
    by_cases a2 : f.was = f.n
    · rw [if_pos a2, if_pos a2]
    · rw [if_neg a2, if_neg a2]
      have b0 : ∀ m, -1 ≤ ordI D m := fun m => by unfold ordI; split <;> omega
      have b1 := b0 f.was
      by_cases a3 : ordI D f.was < 0
      · rw [if_pos a3, if_pos (by omega)]
      · rw [if_neg a3, if_neg (show ¬ rk D f.was = 0 by omega)]
        by_cases a4 : ordI D f.was < ordI D f.n
        · rw [if_pos a4, if_pos (by omega)]
        · rw [if_neg a4, if_neg (by omega)]
set_option maxRecDepth 100000 in
set_option maxHeartbeats 8000000 in
theorem kind32_any (D : List Nm) (d : Nat) (hd : D.length = d) (hL : d ≤ 1048576) (a : Option Addr) (cap : Nat) (f : Ft) (hf : f.ok) (w : World) (hr : Rd w a (rowsOf Nm.cs D)) :
    Calls Try.prog 40 #[.slice a d cap, .agg f.cs.toArray] w fun e w' => e = .returned (.int .i8 (kindR D f)) ∧ Grows w w' := by
  obtain ⟨p, x, b, want, got, sh, y, k⟩ := f
  obtain ⟨w0, w1, w2, w3, w4, w5, w6, w7, rfl⟩ := eight_of hf.want
  obtain ⟨g0, g1, g2, g3, g4, g5, g6, g7, rfl⟩ := eight_of hf.got
  have he1 : ∀ W, (Op.equalIn 10000 29 (.agg #[.int .i64 y.s, .int .i64 y.i, .int .i64 y.t]) (.agg #[.int .i64 0, .int .i64 0, .int .i64 0])).run Try.prog W = .ok (decide (y = Nm.zero)) W := fun W => eqn_any W y Nm.zero
  have he2 : ∀ W, (Op.equalIn 10000 29 (.agg #[.int .i64 y.s, .int .i64 y.i, .int .i64 y.t]) (.agg #[.int .i64 x.s, .int .i64 x.i, .int .i64 x.t])).run Try.prog W = .ok (decide (y = x)) W := fun W => eqn_any W y x
  have he3 : ∀ W, (Op.equalIn 10000 31 (.agg #[.int .u8 g0, .int .u8 g1, .int .u8 g2, .int .u8 g3, .int .u8 g4, .int .u8 g5, .int .u8 g6, .int .u8 g7]) (.agg #[.int .u8 0, .int .u8 0, .int .u8 0, .int .u8 0, .int .u8 0, .int .u8 0, .int .u8 0, .int .u8 0])).run Try.prog W = .ok (decide ([g0, g1, g2, g3, g4, g5, g6, g7] = [0, 0, 0, 0, 0, 0, 0, 0])) W := fun W => eq8_any W [g0, g1, g2, g3, g4, g5, g6, g7] [0, 0, 0, 0, 0, 0, 0, 0] rfl rfl
  have HOR := Lib.hid (fun m W (hg : Grows w W) => order32_any D d hd hL a cap m W (hr.grows hg))
  unfold Nm.v at HOR
  obtain ⟨oy, hoy⟩ : ∃ z, ordI D y = z := ⟨_, rfl⟩
  obtain ⟨ox, hox⟩ : ∃ z, ordI D x = z := ⟨_, rfl⟩
  have HK : Hid (kindR D ⟨p, x, b, [w0, w1, w2, w3, w4, w5, w6, w7], [g0, g1, g2, g3, g4, g5, g6, g7], sh, y, k⟩ = if y = Nm.zero then (if [g0, g1, g2, g3, g4, g5, g6, g7] = [0, 0, 0, 0, 0, 0, 0, 0] then 0 else 4) else if y = x then 3 else if oy < 0 then 2 else if oy < ox then 0 else 1) := Lib.hid (by unfold kindR; simp only [hoy, hox])
  have HOY := Lib.hid hoy
  have HOX := Lib.hid hox
  clear hr hd hL hoy hox hf
  unfold Ft.cs Nm.cs ivs
  simp only [List.map_cons, List.map_nil, List.cons_append, List.nil_append]
  by_cases h1 : y = Nm.zero
  · rw [decide_eq_true h1] at he1
    by_cases h2 : [g0, g1, g2, g3, g4, g5, g6, g7] = [0, 0, 0, 0, 0, 0, 0, 0]
    · rw [decide_eq_true h2] at he3
      rw [if_pos h1, if_pos h2] at HK
      clear h1 h2
      go_enter Try.func40, Try.ntmps40
      go_wp2_with fail
      go_ret
      exact ⟨by rw [HK.out]; rfl, (Grows.refl _).alloc _⟩
    · rw [decide_eq_false h2] at he3
      rw [if_pos h1, if_neg h2] at HK
      clear h1 h2
      go_enter Try.func40, Try.ntmps40
      go_wp2_with fail
      go_ret
      exact ⟨by rw [HK.out]; rfl, (Grows.refl _).alloc _⟩
  · rw [if_neg h1] at HK
    rw [decide_eq_false h1] at he1
    by_cases h2 : y = x
    · rw [decide_eq_true h2] at he2
      rw [if_pos h2] at HK
      clear h1 h2
      go_enter Try.func40, Try.ntmps40
      go_wp2_with fail
      go_ret
      exact ⟨by rw [HK.out]; rfl, (Grows.refl _).alloc _⟩
    · rw [decide_eq_false h2] at he2
      rw [if_neg h2] at HK
      clear h1 h2
      go_enter Try.func40, Try.ntmps40
      go_wp2_with fail
      have hB := At.new w 34 #[.int .i64 (p : Int), .int .i64 x.s, .int .i64 x.i, .int .i64 x.t, .int .i64 b, .int .u8 w0, .int .u8 w1, .int .u8 w2, .int .u8 w3, .int .u8 w4, .int .u8 w5, .int .u8 w6, .int .u8 w7, .int .u8 g0, .int .u8 g1, .int .u8 g2, .int .u8 g3, .int .u8 g4, .int .u8 g5, .int .u8 g6, .int .u8 g7, .int .i64 sh.s, .int .i64 sh.i, .int .i64 sh.t, .int .i64 y.s, .int .i64 y.i, .int .i64 y.t, .int .i8 k]
      have hg0 : Grows w (w.alloc (.cells #[.int .i64 (p : Int), .int .i64 x.s, .int .i64 x.i, .int .i64 x.t, .int .i64 b, .int .u8 w0, .int .u8 w1, .int .u8 w2, .int .u8 w3, .int .u8 w4, .int .u8 w5, .int .u8 w6, .int .u8 w7, .int .u8 g0, .int .u8 g1, .int .u8 g2, .int .u8 g3, .int .u8 g4, .int .u8 g5, .int .u8 g6, .int .u8 g7, .int .i64 sh.s, .int .i64 sh.i, .int .i64 sh.t, .int .i64 y.s, .int .i64 y.i, .int .i64 y.t, .int .i8 k] 34)) := (Grows.refl _).alloc _
      generalize w.alloc (.cells #[.int .i64 (p : Int), .int .i64 x.s, .int .i64 x.i, .int .i64 x.t, .int .i64 b, .int .u8 w0, .int .u8 w1, .int .u8 w2, .int .u8 w3, .int .u8 w4, .int .u8 w5, .int .u8 w6, .int .u8 w7, .int .u8 g0, .int .u8 g1, .int .u8 g2, .int .u8 g3, .int .u8 g4, .int .u8 g5, .int .u8 g6, .int .u8 g7, .int .i64 sh.s, .int .i64 sh.i, .int .i64 sh.t, .int .i64 y.s, .int .i64 y.i, .int .i64 y.t, .int .i8 k] 34) = wb at *
      have L6 : Hid (∀ W, Grows wb W → (loadVar 29 ⟨w.heap.size, 24, none⟩).run Try.prog W = .ok (.agg #[.int .i64 y.s, .int .i64 y.i, .int .i64 y.t]) W) := Lib.hid (ld_mid (P := Try.prog) (cs := _) (o := 24) (n := 3) hB Try.underlying29 rfl (by simp) (by kernel_rfl))
      have L1 : Hid (∀ W, Grows wb W → (loadVar 29 ⟨w.heap.size, 1, none⟩).run Try.prog W = .ok (.agg #[.int .i64 x.s, .int .i64 x.i, .int .i64 x.t]) W) := Lib.hid (ld_mid (P := Try.prog) (cs := _) (o := 1) (n := 3) hB Try.underlying29 rfl (by simp) (by kernel_rfl))
      have C1 : ∀ W, Grows wb W → Hid (Calls Try.prog 43 #[.slice a d cap, .agg #[.int .i64 y.s, .int .i64 y.i, .int .i64 y.t]] W fun e w' => e = .returned (.int .i64 oy) ∧ Grows W w') := fun W h => Lib.hid (by have := HOR.out y W (hg0.trans h); rwa [HOY.out] at this)
      have C2 : ∀ W, Grows wb W → Hid (Calls Try.prog 43 #[.slice a d cap, .agg #[.int .i64 x.s, .int .i64 x.i, .int .i64 x.t]] W fun e w' => e = .returned (.int .i64 ox) ∧ Grows W w') := fun W h => Lib.hid (by have := HOR.out x W (hg0.trans h); rwa [HOX.out] at this)
      have HG0 := Lib.hid hg0
      clear hB hg0
      refine wp_region_class wb (by kernel_rfl) (by kernel_rfl) (Grows.refl _) ?_
      repeat (first
        | go_big_quiet_skip
        | (go_big_quiet_want; first
            | ((with_reducible refine quiet_load (b := w.heap.size) (off := 24) ?_ L6.out ?_); rfl; (simp only [Act.put, List.setIfInBounds_toArray, List.set_cons_zero, List.set_cons_succ]); go_big_quiet_on)
            | ((with_reducible refine quiet_load (b := w.heap.size) (off := 1) ?_ L1.out ?_); rfl; (simp only [Act.put, List.setIfInBounds_toArray, List.set_cons_zero, List.set_cons_succ]); go_big_quiet_on)
            | (go_big_quiet_op; (first
                | go_big_quiet_on
                | (refine ⟨_, fun _ _ => rfl, ?_⟩; go_big_quiet_on)
                | (go_big_quiet_call (first
                    | (intro hC; go_at_call 43; (with_reducible refine (C1 _ hC).out.mono ?_); rintro e w11 ⟨rfl, hg⟩; exact ⟨rfl, hC.trans hg⟩)
                    | (intro hC; go_at_call 43; (with_reducible refine (C2 _ hC).out.mono ?_); rintro e w11 ⟨rfl, hg⟩; exact ⟨rfl, hC.trans hg⟩)))))))
      refine wpQuiet_nil ?_
      intro w6 hC6
      have HC6 := Lib.hid (HG0.out.trans hC6)
      clear hC6
      by_cases h3 : oy < 0
      · have t3 : decide (oy < 0) = true := decide_eq_true h3
        rw [if_pos h3] at HK
        clear h3
        go_wp2_with fail
        go_ret
        exact ⟨by rw [HK.out]; rfl, HC6.out⟩
      · have t3 : decide (oy < 0) = false := decide_eq_false h3
        rw [if_neg h3] at HK
        by_cases h4 : oy < ox
        · have t4 : decide (oy < ox) = true := decide_eq_true h4
          rw [if_pos h4] at HK
          clear h3 h4
          go_wp2_with fail
          go_ret
          exact ⟨by rw [HK.out]; rfl, HC6.out⟩
        · have t4 : decide (oy < ox) = false := decide_eq_false h4
          rw [if_neg h4] at HK
          clear h3 h4
          go_wp2_with fail
          go_ret
          exact ⟨by rw [HK.out]; rfl, HC6.out⟩
end Go.Proofs.Ytfigoeoimefngaa
