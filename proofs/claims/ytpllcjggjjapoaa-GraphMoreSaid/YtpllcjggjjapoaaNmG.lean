/-
  age.once, age.Sort.
-/
import Derived.Test.YtpllcjggjjapoaaNmF
import Derived.Test.YtpllcjggjjapoaaFlat
namespace Go.Proofs.Ytpllcjggjjapoaa
open Go.RowKit

/-- Each once: what is like the last is left out. -/
def ddS (acc : List Nm) (x : Nm) : List Nm := if acc.getLast? = some x then acc else acc ++ [x]
def dd (l : List Nm) : List Nm := l.foldl ddS []
theorem dd_snoc (l : List Nm) (x : Nm) : dd (l ++ [x]) = ddS (dd l) x := by simp [dd, List.foldl_append]
theorem ddS_len (acc : List Nm) (x : Nm) : acc.length ≤ (ddS acc x).length ∧ (ddS acc x).length ≤ acc.length + 1 ∧ 0 < (ddS acc x).length := by
  unfold ddS
  split
  · rename_i h
    refine ⟨Nat.le_refl _, by omega, ?_⟩
    cases acc with
    | nil => simp at h
    | cons y ys => simp
  · simp
theorem dd_take_len (l : List Nm) : ∀ k, k ≤ l.length → (dd (l.take k)).length ≤ k ∧ (0 < k → 0 < (dd (l.take k)).length)
  | 0, _ => ⟨by simp [dd], fun h => by omega⟩
  | k + 1, h => by
    have ih := dd_take_len l k (by omega)
    rw [List.take_succ_eq_append_getElem (by omega), dd_snoc]
    have := ddS_len (dd (l.take k)) l[k]
    exact ⟨by omega, fun _ => this.2.2⟩

theorem ksNm : flatQ Try.prog 2 24 = some [some .i64, some .i64, some .i64] := by kernel_rfl
theorem eqn_any (W : World) (x y : Nm) : (Op.equalIn 10000 24 (.agg #[.int .i64 x.s, .int .i64 x.i, .int .i64 x.t]) (.agg #[.int .i64 y.s, .int .i64 y.i, .int .i64 y.t])).run Try.prog W = .ok (decide (x = y)) W := by
  have hx : OfKinds [some .i64, some .i64, some .i64] [.int .i64 x.s, .int .i64 x.i, .int .i64 x.t] := ⟨⟨_, rfl⟩, ⟨_, rfl⟩, ⟨_, rfl⟩, trivial⟩
  have hy : OfKinds [some .i64, some .i64, some .i64] [.int .i64 y.s, .int .i64 y.i, .int .i64 y.t] := ⟨⟨_, rfl⟩, ⟨_, rfl⟩, ⟨_, rfl⟩, trivial⟩
  have := eq_flat_agg (P := Try.prog) W 2 24 _ ksNm (by omega) (fun _ => rfl) _ _ hx hy
  have he : cellsEq [.int .i64 x.s, .int .i64 x.i, .int .i64 x.t] [.int .i64 y.s, .int .i64 y.i, .int .i64 y.t] = decide (x = y) := by
    rw [Bool.eq_iff_iff, cellsEq_iff hx hy, decide_eq_true_eq]
    cases x
    cases y
    simp
  rw [he] at this
  exact this

/-- What the loop of once holds: the names at their places. -/
def OncI (w : World) (r : List Nm) (g : Nat) (tl : List Value) (i k : Nat) (wr : World) : Prop :=
  ∃ X : List Nm, X.length = r.length ∧ X.take k = dd (r.take i) ∧ X.drop i = r.drop i ∧ k = (dd (r.take i)).length ∧ At wr g 24 (nms X ++ tl).toArray ∧ Below g w wr

theorem nms_set (X : List Nm) (k : Nat) (hk : k < X.length) (x : Nm) (tl : List Value) : spl (nms X ++ tl) (k * 3) x.cs = nms (X.set k x) ++ tl := by
  have h1 : X = X.take k ++ X[k] :: X.drop (k + 1) := by rw [← List.drop_eq_getElem_cons hk, List.take_append_drop]
  have hl : (nms (X.take k)).length = k * 3 := by rw [nms_length, List.length_take]; omega
  have h2 : nms X ++ tl = nms (X.take k) ++ (X[k].cs ++ (nms (X.drop (k + 1)) ++ tl)) := by
    conv => lhs; rw [h1]
    rw [nms_append, nms_cons]
    simp
  have h3 : nms (X.set k x) ++ tl = nms (X.take k) ++ (x.cs ++ (nms (X.drop (k + 1)) ++ tl)) := by
    rw [List.set_eq_take_append_cons_drop, if_pos hk, nms_append, nms_cons]
    simp
  rw [h2, h3, spl, List.take_left' hl, List.append_assoc]
  congr 2
  have h4 : k * 3 + x.cs.length = (nms (X.take k) ++ X[k].cs).length := by rw [List.length_append, hl]; rfl
  rw [← List.append_assoc, h4, List.drop_left]

theorem below_drewN' {B : Nat} {a w : World} (h : Below B a w) (n : Nat) : Below B a (w.drewN n) := ⟨h.os, h.tape, h.output, h.size, h.block⟩
set_option maxRecDepth 100000 in
set_option maxHeartbeats 4000000 in
theorem once_any (r : List Nm) (n : Nat) (hn : r.length = n) (g cap : Nat) (hcap : n ≤ cap) (tl : List Value) (w : World) (hA : At w g 24 (nms r ++ tl).toArray) (hl : n ≤ 1000000) (h1 : 1 ≤ n) :
    Calls Try.prog 19 #[.slice (some ⟨g, 0, none⟩) n cap] w fun e w' => ∃ m X, e = .returned (.slice (some ⟨g, 0, none⟩) m m) ∧ (dd r).length = m ∧ X.take m = dd r ∧ m ≤ X.length ∧ At w' g 24 (nms X ++ tl).toArray ∧ Below g w w' := by
  have HN := Lib.hid hn
  have HA := Lib.hid hA
  have hgl : g < w.heap.size := hA.lt
  clear hn hA
  go_enter Try.func19, Try.ntmps19
  go_wp2_with fail
  go_loopg [3, 8] n (fun gh a b wr => ∃ (i k : Nat), i + gh = n ∧ b = .int .i64 (i : Int) ∧ a = .int .i64 (k : Int) ∧ OncI w r g tl i k wr)
  case atStart => exact ⟨0, 0, by omega, rfl, rfl, r, rfl, by simp [dd], rfl, rfl, HA.out, Below.refl _ _⟩
  case round =>
    obtain ⟨i, k, hi, rfl, rfl, X, hXl, hXt, hXd, hkl, hat, hbel⟩ := hrel
    have hdl := dd_take_len r i (by rw [HN.out]; omega)
    rw [← hkl] at hdl
    have hki := hdl.1
    by_cases hlt : i < n
    · have hir : i < r.length := by rw [HN.out]; exact hlt
      have hiX : i < X.length := by rw [hXl]; exact hir
      have hXi : X[i] = r[i] := by
        have h1 := congrArg (fun l => l[0]?) hXd
        simp only [List.getElem?_drop, Nat.add_zero, List.getElem?_eq_getElem hiX, List.getElem?_eq_getElem hir] at h1
        exact Option.some.inj h1
      have hsn : dd (r.take (i + 1)) = ddS (dd (r.take i)) r[i] := by rw [List.take_succ_eq_append_getElem hir, dd_snoc]
      have cell : ∀ (q : Nat) (hq : q < X.length) (W : World), At W g 24 (nms X ++ tl).toArray → W.cell? ⟨g, q * 3, none⟩ = some (.int .i64 X[q].s) ∧ W.cell? ⟨g, q * 3 + 1, none⟩ = some (.int .i64 X[q].i) ∧ W.cell? ⟨g, q * 3 + 2, none⟩ = some (.int .i64 X[q].t) := by
        intro q hq W hW
        have hc : ∀ j v, j < 3 → (X[q].cs)[j]? = some v → W.cell? ⟨g, q * 3 + j, none⟩ = some v := by
          intro j v hj hv
          rw [hW.cell, List.getElem?_toArray, List.getElem?_append_left (by rw [nms_length]; omega), nms_get X q j hq hj, hv]
        exact ⟨hc 0 _ (by omega) rfl, hc 1 _ (by omega) rfl, hc 2 _ (by omega) rfl⟩
      obtain ⟨c0, c1, c2⟩ := cell i hiX wr hat
      rw [hXi] at c0 c1 c2
      have HXl := Lib.hid hXl
      have HXt := Lib.hid hXt
      have HXd : Hid (X.drop (i + 1) = r.drop (i + 1)) := by
        show _ = _
        have h1 := congrArg (List.drop 1) hXd
        rwa [List.drop_drop, List.drop_drop] at h1
      generalize r[i] = x at *
      have HSN := Lib.hid hsn
      have HKL := Lib.hid hkl
      have HAT := Lib.hid (hat.alloc (.cells #[.int .i64 x.s, .int .i64 x.i, .int .i64 x.t] 24))
      have hgr : g < wr.heap.size := hat.lt
      have HB := Lib.hid (Below.alloc hbel (by have := hbel.size; omega) (.cells #[.int .i64 x.s, .int .i64 x.i, .int .i64 x.t] 24))
      have hlt' : (i : Int) < (n : Int) := by omega
      have hi0 : (0 : Int) ≤ (i : Int) := by omega
      have hk0 : (0 : Int) ≤ (k : Int) := by omega
      have hkn : (k : Int) < (n : Int) := by omega
      have hkX : k < X.length := by omega
      have hlen3 : k * 3 + 3 ≤ (nms X ++ tl).length := by rw [List.length_append, nms_length]; omega
      have HS3 := Lib.hid (nms_set X k hkX x tl)
      clear hXi hXl hXt hXd hsn hkl hat hbel hir hiX
      by_cases hiz : i = 0
      · have e0 : ((i : Int) == 0) = true := by simp; omega
        have HNE : Hid (¬ (dd (r.take i)).getLast? = some x) := by
          show ¬ _
          rw [hiz]
          simp [dd]
        clear hiz hdl
        go_wp2_with fail
        go_quiet (fail)
        have AT2 := Lib.hid (HAT.out.grows ((Grows.refl _).drewN nq))
        go_wp2_with (with_reducible refine wpList_store_mid (op := ⟨none, .store 24 (.tmp 27) (.tmp 26), _, _, _, none⟩) rfl 24 (.tmp 27) (.tmp 26) rfl g (k * 3) #[.int .i64 x.s, .int .i64 x.i, .int .i64 x.t] ?ua ?ub ?uc ?ud ?ue ?_)
        case ua => rfl
        case ub => rfl
        case uc => exact AT2.out.there (k * 3) 3 (by simpa using hlen3)
        case ud => kernel_rfl
        case ue => exact one3 _ _ _
        go_roundg (gk - 1)
        case measure => omega
        case rel =>
          have hdd : dd (r.take (i + 1)) = dd (r.take i) ++ [x] := by
            rw [HSN.out, ddS, if_neg]
            exact HNE.out
          refine ⟨i + 1, k + 1, by omega, by go_num, by go_num, X.set k x, by rw [List.length_set]; exact HXl.out, ?_, ?_, ?_, ?_, below_setCells (Nat.le_refl _) _ _ (below_drewN' HB.out nq)⟩
          · rw [hdd, ← HXt.out, List.take_succ_eq_append_getElem (by rw [List.length_set]; exact hkX), List.getElem_set_self, List.take_set_of_le (Nat.le_refl _)]
          · rw [List.drop_set_of_lt (by omega)]
            exact HXd.out
          · rw [hdd, List.length_append, ← HKL.out]; rfl
          · have := At.setCells (x.cs) (k * 3) AT2.out (by rw [show x.cs.length = 3 from rfl]; exact hlen3)
            rw [HS3.out] at this
            exact this
      · have e0 : ((i : Int) == 0) = false := by simp; omega
        have hkp : 0 < k := hdl.2 (by omega)
        obtain ⟨p0, p1, p2⟩ := cell (k - 1) (by omega) _ HAT.out
        have hgl : (dd (r.take i)).getLast? = some X[k - 1] := by
          rw [← HXt.out, List.getLast?_take, if_neg (by omega), List.getElem?_eq_getElem (by omega)]
          rfl
        generalize X[k - 1] = z at *
        have he := eqn_any
        have hk4 : (0 : Int) ≤ (k : Int) - 1 := by omega
        have hk7 : (1 : Int) ≤ (k : Int) := by omega
        have hk6 : (k : Int) - 1 < (n : Int) := by omega
        have hw1 : IntKind.i64.wrap ((k : Int) - 1) = (k : Int) - 1 := IntWalk.i64_in _ (by omega)
        have hk5 : ((k : Int) - 1).toNat = k - 1 := by omega
        clear cell hdl hiz
        by_cases hxz : x = z
        · have hd : decide (x = z) = true := by simpa using hxz
          have HEQ : Hid (dd (r.take (i + 1)) = dd (r.take i)) := by
            show _ = _
            rw [HSN.out, ddS, if_pos (by rw [hgl, hxz])]
          have HGL := Lib.hid hgl
          clear hxz hgl
          go_wp2_with fail
          go_quiet (fail)
          clear hw1 hk5
          have AT2 := Lib.hid (HAT.out.grows ((Grows.refl _).drewN nq))
          go_wp2_with fail
          go_roundg (gk - 1)
          case measure => omega
          case rel => exact ⟨i + 1, k, by omega, by go_num, rfl, X, HXl.out, by rw [HEQ.out]; exact HXt.out, HXd.out, by rw [HEQ.out]; exact HKL.out, AT2.out, below_drewN' HB.out nq⟩
        · have hd : decide (x = z) = false := by simpa using hxz
          have HNE : Hid (¬ (dd (r.take i)).getLast? = some x) := by
            show ¬ _
            rw [hgl]
            intro h
            exact hxz (Option.some.inj h).symm
          clear hxz hgl
          go_wp2_with fail
          go_quiet (fail)
          clear hw1 hk5
          have AT2 := Lib.hid (HAT.out.grows ((Grows.refl _).drewN nq))
          go_wp2_with (with_reducible refine wpList_store_mid (op := ⟨none, .store 24 (.tmp 27) (.tmp 26), _, _, _, none⟩) rfl 24 (.tmp 27) (.tmp 26) rfl g (k * 3) #[.int .i64 x.s, .int .i64 x.i, .int .i64 x.t] ?va ?vb ?vc ?vd ?ve ?_)
          case va => rfl
          case vb => rfl
          case vc => exact AT2.out.there (k * 3) 3 (by simpa using hlen3)
          case vd => kernel_rfl
          case ve => exact one3 _ _ _
          go_roundg (gk - 1)
          case measure => omega
          case rel =>
            have hdd : dd (r.take (i + 1)) = dd (r.take i) ++ [x] := by
              rw [HSN.out, ddS, if_neg]
              exact HNE.out
            refine ⟨i + 1, k + 1, by omega, by go_num, by go_num, X.set k x, by rw [List.length_set]; exact HXl.out, ?_, ?_, ?_, ?_, below_setCells (Nat.le_refl _) _ _ (below_drewN' HB.out nq)⟩
            · rw [hdd, ← HXt.out, List.take_succ_eq_append_getElem (by rw [List.length_set]; exact hkX), List.getElem_set_self, List.take_set_of_le (Nat.le_refl _)]
            · rw [List.drop_set_of_lt (by omega)]
              exact HXd.out
            · rw [hdd, List.length_append, ← HKL.out]; rfl
            · have := At.setCells (x.cs) (k * 3) AT2.out (by rw [show x.cs.length = 3 from rfl]; exact hlen3)
              rw [HS3.out] at this
              exact this
    · obtain rfl : n = i := by omega
      have hfull : r.take n = r := List.take_of_length_le (by rw [HN.out]; exact Nat.le_refl _)
      rw [hfull] at hXt hkl
      have HR : Hid (k ≤ X.length) := by show _ ≤ _; rw [hXl, HN.out]; exact hki
      have HXt := Lib.hid hXt
      have HKL := Lib.hid hkl
      have HAT := Lib.hid hat
      have hkc : (k : Int) ≤ (cap : Int) := by omega
      have hk0 : (0 : Int) ≤ (k : Int) := by omega
      have hkp : 0 < k := hdl.2 (by omega)
      have hkne : ¬ (k = 0) := by omega
      clear hXt hkl hat hXl hXd hfull hdl
      go_wp2_with fail
      go_ret
      exact ⟨k, X, rfl, HKL.out.symm, HXt.out, HR.out, HAT.out, hbel⟩
end Go.Proofs.Ytpllcjggjjapoaa
