/-
  The law's commits, answered.
-/
import Derived.Test.YtcailhkaeledbaaOrC
import Derived.Test.YtcailhkaeledbaaFlat
import Derived.Deep.QuietTactic
import Derived.BigQuiet
namespace Go.Proofs.Ytcailhkaeledbaa
open Go.RowKit Go.Maps

theorem ksNm : flatQ Try.prog 2 31 = some [some .i64, some .i64, some .i64] := by kernel_rfl
theorem eqn_any (W : World) (x y : Nm) : (Op.equalIn 10000 31 (.agg #[.int .i64 x.s, .int .i64 x.i, .int .i64 x.t]) (.agg #[.int .i64 y.s, .int .i64 y.i, .int .i64 y.t])).run Try.prog W = .ok (decide (x = y)) W := by
  have hx : OfKinds [some .i64, some .i64, some .i64] [.int .i64 x.s, .int .i64 x.i, .int .i64 x.t] := ⟨⟨_, rfl⟩, ⟨_, rfl⟩, ⟨_, rfl⟩, trivial⟩
  have hy : OfKinds [some .i64, some .i64, some .i64] [.int .i64 y.s, .int .i64 y.i, .int .i64 y.t] := ⟨⟨_, rfl⟩, ⟨_, rfl⟩, ⟨_, rfl⟩, trivial⟩
  have := eq_flat_agg (P := Try.prog) W 2 31 _ ksNm (by omega) (fun _ => rfl) _ _ hx hy
  have he : cellsEq [.int .i64 x.s, .int .i64 x.i, .int .i64 x.t] [.int .i64 y.s, .int .i64 y.i, .int .i64 y.t] = decide (x = y) := by
    rw [Bool.eq_iff_iff, cellsEq_iff hx hy, decide_eq_true_eq]
    cases x
    cases y
    simp
  rw [he] at this
  exact this
/-- A step of kind q of name y. -/
def stB (q : Int) (y : Nm) (x : Sn) : Bool := x.k == q && decide (x.n = y)
def fstI (q : Int) (y : Nm) (l : List Sn) : Int := match l.findIdx? (stB q y) with | some i => (i : Int) | none => -1
theorem fstI_some {q : Int} {y : Nm} {l : List Sn} {k : Nat} {x : Sn} (hx : l[k]? = some x) (h : stB q y x = true) (hno : ∀ (j : Nat) (z : Sn), j < k → l[j]? = some z → stB q y z = false) : fstI q y l = (k : Int) := by
  obtain ⟨hk, rfl⟩ := List.getElem?_eq_some_iff.1 hx
  unfold fstI
  rw [List.findIdx?_eq_some_iff_getElem.2 ⟨hk, h, fun j hj => by simp [hno j _ hj (List.getElem?_eq_getElem (by omega))]⟩]
theorem fstI_none {q : Int} {y : Nm} {l : List Sn} (hno : ∀ (j : Nat) (z : Sn), l[j]? = some z → stB q y z = false) : fstI q y l = -1 := by
  unfold fstI
  rw [List.findIdx?_eq_none_iff.2 fun x hx => by
    obtain ⟨i, hi⟩ := List.getElem?_of_mem hx
    exact hno i x hi]
set_option maxHeartbeats 2000000 in
theorem commits_any (L : List Sn) (n : Nat) (hn : L.length = n) (hL : n ≤ 1000000) (a : Option Addr) (cap : Nat) (y : Nm) (w : World) (hr : Rd w a (rowsOf Sn.cs L)) :
    Calls Try.prog 10 #[.slice a n cap, y.v] w fun e w' => e = .returned (.int .i64 (fstI 3 y L)) ∧ Grows w w' := by
  have HR := Lib.hid hr
  have HN := Lib.hid hn
  clear hr hn
  have HA := Lib.hid (At.new w 31 #[.int .i64 y.s, .int .i64 y.i, .int .i64 y.t])
  have he := eqn_any
  unfold Nm.v
  go_enter Try.func10, Try.ntmps10
  go_wp2_with fail
  go_loopg [5, 8] n (fun gh v5 v8 wr => ∃ k : Nat, gh + k = n ∧ v8 = .int .i64 (k : Int) ∧ (∀ j z, j < k → L[j]? = some z → stB 3 y z = false) ∧ At wr w.heap.size 31 #[.int .i64 y.s, .int .i64 y.i, .int .i64 y.t] ∧ Grows w wr)
  case atStart => exact ⟨0, by omega, rfl, fun j z hj => by omega, HA.out, (Grows.refl w).alloc _⟩
  case round =>
    obtain ⟨k, hgk, rfl, hno, hat, hg⟩ := hrel
    have HNO := Lib.hid hno
    have HAT := Lib.hid hat
    have HG := Lib.hid hg
    clear hno hat hg
    by_cases hlt : k < n
    · have hkl : k < L.length := by rw [HN.out]; exact hlt
      obtain ⟨g, off, rfl, hgw, hc⟩ := cells14 (HR.out.grows HG.out) hkl
      obtain ⟨c0, c1, c2, c3, _⟩ := cells14_at hc
      have HX := Lib.hid (List.getElem?_eq_getElem hkl)
      generalize L[k] = x at *
      clear hc hkl
      have cA := HAT.out.cell
      have hi1 : (k : Int) < (n : Int) := by omega
      have hi0 : (0 : Int) ≤ (k : Int) := by omega
      have hi2 : ((k : Int)).toNat = k := by omega
      clear hlt
      by_cases hk : x.k = 3
      · have bk : (x.k == (3 : Int)) = true := by simp [hk]
        by_cases hxy : x.n = y
        · have hd : decide (x.n = y) = true := by simp [hxy]
          have HB : Hid (stB 3 y x = true) := Lib.hid (by unfold stB; rw [bk, hd]; rfl)
          clear hk hxy
          go_wp2_with fail
          go_quiet (fail)
          go_wp2_with fail
          go_ret
          exact ⟨by rw [fstI_some HX.out HB.out HNO.out]; rfl, HG.out.drewN _⟩
        · have hd : decide (x.n = y) = false := by simp [hxy]
          have HB : Hid (stB 3 y x = false) := Lib.hid (by unfold stB; rw [hd, Bool.and_false])
          clear hk hxy
          go_wp2_with fail
          go_quiet (fail)
          have HAT2 := Lib.hid (HAT.out.grows ((Grows.refl _).drewN nq))
          have HG2 := Lib.hid (HG.out.drewN nq)
          go_wp2_with fail
          go_roundg (gk - 1)
          case measure => omega
          case rel =>
            refine ⟨k + 1, by omega, by go_num, fun j z hj hz => ?_, HAT2.out, HG2.out⟩
            rcases Nat.lt_or_ge j k with h | h
            · exact HNO.out j z h hz
            · obtain rfl : j = k := by omega
              rw [HX.out] at hz
              injection hz with hz
              rw [← hz]
              exact HB.out
      · have bk : (x.k == (3 : Int)) = false := by simp [hk]
        have HB : Hid (stB 3 y x = false) := Lib.hid (by unfold stB; rw [bk, Bool.false_and])
        clear hk
        go_wp2_with fail
        go_quiet (fail)
        have HAT2 := Lib.hid (HAT.out.grows ((Grows.refl _).drewN nq))
        have HG2 := Lib.hid (HG.out.drewN nq)
        go_wp2_with fail
        go_roundg (gk - 1)
        case measure => omega
        case rel =>
          refine ⟨k + 1, by omega, by go_num, fun j z hj hz => ?_, HAT2.out, HG2.out⟩
          rcases Nat.lt_or_ge j k with h | h
          · exact HNO.out j z h hz
          · obtain rfl : j = k := by omega
            rw [HX.out] at hz
            injection hz with hz
            rw [← hz]
            exact HB.out
    · have hge : ¬ (k : Int) < (n : Int) := by omega
      have HE : Hid (fstI 3 y L = -1) := Lib.hid (fstI_none fun j z hz => HNO.out j z (by have := (List.getElem?_eq_some_iff.1 hz).1; have := HN.out; omega) hz)
      clear hlt
      go_wp2_with fail
      go_ret
      exact ⟨by rw [HE.out]; rfl, HG.out⟩
end Go.Proofs.Ytcailhkaeledbaa
