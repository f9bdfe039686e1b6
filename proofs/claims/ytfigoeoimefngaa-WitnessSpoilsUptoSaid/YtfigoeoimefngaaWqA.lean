/-
  The reference's order and was; SameSteps.
-/
import Derived.Test.YtfigoeoimefngaaWnC
import Derived.Test.YtfigoeoimefngaaWjF
import Derived.Test.YtfigoeoimefngaaWoA
namespace Go.Proofs.Ytfigoeoimefngaa
open Go.RowKit Go.Maps Go.Shelf

/-- The place of a name in a list of names; -1: in none. -/
def ordI (D : List Nm) (m : Nm) : Int := if D.any (fun n => decide (n = m)) = true then ((D.findIdx (fun n => decide (n = m)) : Nat) : Int) else -1
theorem ord_hit {D : List Nm} {m : Nm} {i : Nat} {x : Nm} (h : D[i]? = some x) (h0 : (D.take i).any (fun n => decide (n = m)) = false) (hx : x = m) : ordI D m = (i : Int) := by
  have hi := (List.getElem?_eq_some_iff.1 h).1
  have e := (List.getElem?_eq_some_iff.1 h).2
  unfold ordI
  rw [if_pos (List.any_eq_true.2 ⟨x, List.mem_of_getElem? h, by simp [hx]⟩)]
  congr 1
  rw [List.findIdx_eq hi]
  refine ⟨by rw [e]; simp [hx], fun j hj => ?_⟩
  have hj2 : j < D.length := by omega
  rw [List.any_eq_false] at h0
  have := h0 D[j] (by
    rw [List.mem_take_iff_getElem]
    exact ⟨j, by omega, rfl⟩)
  simpa using this
theorem ord_none {D : List Nm} {m : Nm} (h : D.any (fun n => decide (n = m)) = false) : ordI D m = -1 := by unfold ordI; rw [h]; rfl
set_option maxRecDepth 100000 in
set_option maxHeartbeats 4000000 in
theorem order32_any (D : List Nm) (d : Nat) (hd : D.length = d) (hL : d ≤ 1048576) (a : Option Addr) (cap : Nat) (m : Nm) (w : World) (hr : Rd w a (rowsOf Nm.cs D)) :
    Calls Try.prog 43 #[.slice a d cap, m.v] w fun e w' => e = .returned (.int .i64 (ordI D m)) ∧ Grows w w' := by
  have HR := Lib.hid hr
  have HN := Lib.hid hd
  have HNL := Lib.hid hL
  have HMN := Lib.hid (At.new w 29 #[.int .i64 m.s, .int .i64 m.i, .int .i64 m.t])
  clear hr hd hL
  unfold Nm.v
  go_enter Try.func43, Try.ntmps43
  go_wp2_with fail
  go_loopg [5] d (fun gk v5 wr => ∃ k : Nat, gk + k = d ∧ v5 = .int .i64 (k : Int) ∧ Grows w wr ∧ (D.take k).any (fun n => decide (n = m)) = false ∧ At wr w.heap.size 29 #[.int .i64 m.s, .int .i64 m.i, .int .i64 m.t])
  case atStart => exact ⟨0, by omega, rfl, (Grows.refl _).alloc _, rfl, HMN.out⟩
  case round =>
    obtain ⟨k, hk, rfl, hg, h0, hmm⟩ := hrel
    have HGW := Lib.hid hg
    have H0 := Lib.hid h0
    have HMX := Lib.hid hmm
    clear hg h0 hmm
    by_cases hlt : k < d
    · have hkl : k < D.length := by rw [HN.out]; exact hlt
      obtain ⟨g, off, rfl, hgw, d0, d1, d2⟩ := cells3n (HR.out.grows HGW.out) hkl
      have HXK : Hid (D[k]? = some D[k]) := Lib.hid (List.getElem?_eq_getElem hkl)
      generalize D[k] = x at *
      have cm := HMX.out.cell
      have hen : ∀ W, (Op.equalIn 10000 29 (.agg #[.int .i64 x.s, .int .i64 x.i, .int .i64 x.t]) (.agg #[.int .i64 m.s, .int .i64 m.i, .int .i64 m.t])).run Try.prog W = .ok (decide (x = m)) W := fun W => eqn_any W x m
      have hlt' : (k : Int) < (d : Int) := by omega
      have hk0 : (0 : Int) ≤ (k : Int) := by omega
      have hwr : IntKind.i64.wrap ((k : Int) + 1) = (k : Int) + 1 := IntWalk.i64_in _ (by have := HNL.out; omega)
      clear hkl hgw
      by_cases h5 : x = m
      · rw [decide_eq_true h5] at hen
        have HX := Lib.hid (ord_hit HXK.out H0.out h5)
        clear h5
        go_wp2_with fail
        go_quiet (fail)
        go_wp2_with fail
        go_ret
        exact ⟨by rw [HX.out]; rfl, HGW.out.drewN _⟩
      · rw [decide_eq_false h5] at hen
        have HX : Hid (decide (x = m) = false) := Lib.hid (decide_eq_false h5)
        clear h5
        go_wp2_with fail
        go_quiet (fail)
        go_wp2_with fail
        go_roundg (gk - 1)
        case measure => omega
        exact ⟨k + 1, by omega, rfl, HGW.out.drewN _, any_take HXK.out H0.out HX.out, HMX.out.grows ((Grows.refl _).drewN _)⟩
    · have : k = d := by omega
      subst this
      have HF := Lib.hid (ord_none (m := m) (D := D) (by have := H0.out; rwa [← HN.out, List.take_length] at this))
      clear hlt
      go_wp2_with fail
      go_ret
      exact ⟨by rw [HF.out]; rfl, HGW.out⟩
set_option maxRecDepth 100000 in
set_option maxHeartbeats 4000000 in
theorem steps32_any (L : List Sn) (n : Nat) (hn : L.length = n) (hL : n ≤ 1000000) (a a' : Option Addr) (cap cap' : Nat) (w : World) (hr : Rd w a (rowsOf Sn.cs L)) (hr' : Rd w a' (rowsOf Sn.cs L)) :
    Calls Try.prog 23 #[.slice a n cap, .slice a' n cap'] w fun e w' => e = .returned (.bool true) ∧ Grows w w' := by
  have HR := Lib.hid hr
  have HR' := Lib.hid hr'
  have HN := Lib.hid hn
  have HNL := Lib.hid hL
  clear hr hr' hn hL
  go_enter Try.func23, Try.ntmps23
  go_wp2_with fail
  go_loopg [5] n (fun gk v5 wr => ∃ k : Nat, gk + k = n ∧ v5 = .int .i64 (k : Int) ∧ Grows w wr)
  case atStart => exact ⟨0, by omega, rfl, Grows.refl _⟩
  case round =>
    obtain ⟨k, hk, rfl, hg⟩ := hrel
    have HGW := Lib.hid hg
    clear hg
    by_cases hlt : k < n
    · have hkl : k < L.length := by rw [HN.out]; exact hlt
      have hfk : L[k]? = some L[k] := List.getElem?_eq_getElem hkl
      obtain ⟨g, off, rfl, hgw, hA⟩ := ld_seen (HR.out.grows HGW.out) hfk
      obtain ⟨g', off', rfl, hgw', hA'⟩ := ld_seen (HR'.out.grows HGW.out) hfk
      generalize L[k] = x at *
      have HA : Hid (∀ W, Grows wr W → (loadVar 36 ⟨g, off + k * 14, none⟩).run Try.prog W = .ok (.agg x.cs.toArray) W) := Lib.hid (ld_range hA hgw Try.underlying36 rfl (by kernel_rfl))
      have HA' : Hid (∀ W, Grows wr W → (loadVar 36 ⟨g', off' + k * 14, none⟩).run Try.prog W = .ok (.agg x.cs.toArray) W) := Lib.hid (ld_range hA' hgw' Try.underlying36 rfl (by kernel_rfl))
      have he : ∀ W, (Op.equalIn 10000 36 (.agg x.cs.toArray) (.agg x.cs.toArray)).run Try.prog W = .ok true W := fun W => by have := sn_eq x x W; rwa [decide_eq_true rfl] at this
      have hlt' : (k : Int) < (n : Int) := by omega
      have hk0 : (0 : Int) ≤ (k : Int) := by omega
      have hwr : IntKind.i64.wrap ((k : Int) + 1) = (k : Int) + 1 := IntWalk.i64_in _ (by have := HNL.out; omega)
      clear hA hA' hkl hfk hgw hgw'
      generalize x.cs.toArray = F at *
      go_upto_region 6 with (fail)
      refine wp_region_class wr (by kernel_rfl) (by kernel_rfl) (Grows.refl _) ?_
      repeat (first
        | go_big_quiet_skip
        | (go_big_quiet_want; first
            | ((with_reducible refine quiet_load (b := g) (off := off + k * 14) ?_ HA.out ?_); rfl; (simp only [Act.put, List.setIfInBounds_toArray, List.set_cons_zero, List.set_cons_succ]); go_big_quiet_on)
            | ((with_reducible refine quiet_load (b := g') (off := off' + k * 14) ?_ HA'.out ?_); rfl; (simp only [Act.put, List.setIfInBounds_toArray, List.set_cons_zero, List.set_cons_succ]); go_big_quiet_on)
            | (go_big_quiet_op; (first
                | go_big_quiet_on
                | (refine ⟨_, fun _ _ => rfl, ?_⟩; go_big_quiet_on)))))
      refine wpQuiet_nil ?_
      intro w6 hC6
      have HC6 := Lib.hid (HGW.out.trans hC6)
      clear hC6
      go_wp2_with fail
      go_roundg (gk - 1)
      case measure => omega
      exact ⟨k + 1, by omega, rfl, HC6.out⟩
    · have : k = n := by omega
      clear hlt
      go_wp2_with fail
      go_ret
      exact ⟨rfl, HGW.out⟩
end Go.Proofs.Ytfigoeoimefngaa
