/-
  order.each: the iterator.
-/
import Derived.Test.YtcailhkaeledbaaOrA
import Derived.Test.YtcailhkaeledbaaTu
import Derived.Test.YtcailhkaeledbaaRfTwo
namespace Go.Proofs.Ytcailhkaeledbaa
open Go.RowKit Go.Maps Go.Shelf
attribute [local go_sem] Oper.semAt_some

def numOf : Value → Int
  | .int _ n => n
  | _ => 0
/-- The cells of step k. -/
theorem cells14 {w : World} {a : Option Addr} {l : List Sn} (h : Rd w a (rowsOf Sn.cs l)) {k : Nat} (hk : k < l.length) :
    ∃ (g off : Nat), a = some ⟨g, off, none⟩ ∧ g < w.heap.size ∧ ∀ j v, (l[k].cs)[j]? = some v → w.cell? ⟨g, off + k * 14 + j, none⟩ = some v :=
  rows_cell Sn.cs_len (by omega) h hk
theorem cells14_at {w : World} {g off k : Nat} {x : Sn} (h : ∀ j v, (x.cs)[j]? = some v → w.cell? ⟨g, off + k * 14 + j, none⟩ = some v) :
    w.cell? ⟨g, off + k * 14, none⟩ = some (.int .i8 x.k) ∧ w.cell? ⟨g, off + k * 14 + 1, none⟩ = some (.int .i64 x.n.s) ∧ w.cell? ⟨g, off + k * 14 + 2, none⟩ = some (.int .i64 x.n.i) ∧ w.cell? ⟨g, off + k * 14 + 3, none⟩ = some (.int .i64 x.n.t) ∧ w.cell? ⟨g, off + k * 14 + 4, none⟩ = some (.int .i64 x.b) ∧
    w.cell? ⟨g, off + k * 14 + 5, none⟩ = some (.int .u8 x.x0) ∧ w.cell? ⟨g, off + k * 14 + 6, none⟩ = some (.int .u8 x.x1) ∧ w.cell? ⟨g, off + k * 14 + 7, none⟩ = some (.int .u8 x.x2) ∧ w.cell? ⟨g, off + k * 14 + 8, none⟩ = some (.int .u8 x.x3) ∧ w.cell? ⟨g, off + k * 14 + 9, none⟩ = some (.int .u8 x.x4) ∧
    w.cell? ⟨g, off + k * 14 + 10, none⟩ = some (.int .u8 x.x5) ∧ w.cell? ⟨g, off + k * 14 + 11, none⟩ = some (.int .u8 x.x6) ∧ w.cell? ⟨g, off + k * 14 + 12, none⟩ = some (.int .u8 x.x7) ∧ w.cell? ⟨g, off + k * 14 + 13, none⟩ = some (.int .i64 x.e) :=
  ⟨h 0 _ rfl, h 1 _ rfl, h 2 _ rfl, h 3 _ rfl, h 4 _ rfl, h 5 _ rfl, h 6 _ rfl, h 7 _ rfl, h 8 _ rfl, h 9 _ rfl, h 10 _ rfl, h 11 _ rfl, h 12 _ rfl, h 13 _ rfl⟩

theorem each_any (a : Option Addr) (n cap : Nat) (w : World) : Calls Try.prog 17 #[.slice a n cap] w fun e w' => e = .returned (.func (.func 23) #[] #[.pointer (some ⟨w.heap.size, 0, none⟩)]) ∧ w.alloc (.cells #[.slice a n cap] 22) = w' := by
  go_enter Try.func17, Try.ntmps17
  go_wp2_with fail
  go_ret
  exact ⟨rfl, rfl⟩

set_option maxRecDepth 100000 in
set_option maxHeartbeats 4000000 in
theorem each1_any (lp bl n0 : Nat) (a : Option Addr) (cap : Nat) (L : List Sn) (n : Nat) (hn : L.length = n) (W : World) (hL : n ≤ 1000000) (J : Nat → World → Prop) (S : World → Prop)
    (hbl : W.cell? ⟨bl, 0, none⟩ = some (.slice a n cap)) (h0 : J 0 W) (hJ : ∀ k W W', J k W → Grows W W' → J k W') (hR : ∀ k W, J k W → Rd W a (rowsOf Sn.cs L))
    (hY : ∀ k W x, L[k]? = some x → J k W → YieldAt Fence.wide n0 Try.prog lp #[.int .i64 (k : Int), .agg x.cs.toArray] W fun e W2 => (e = .returned (.bool true) ∧ J (k + 1) W2) ∨ (e = .returned (.bool false) ∧ S W2)) :
    CallsIn Fence.wide (n0 + 1) Try.prog 23 #[.func (.yield lp) #[] #[], .pointer (some ⟨bl, 0, none⟩)] W fun e W' => (∃ v, e = .returned v) ∧ (J n W' ∨ S W') := by
  have H0 := Lib.hid h0
  have HJ := Lib.hid hJ
  have HR := Lib.hid hR
  have HY := Lib.hid hY
  have HN := Lib.hid hn
  clear h0 hJ hR hY hn
  refine callsIn_of_wp Try.func23 rfl trivial ?_ rfl
  simp only [Try.ntmps23, List.size_toArray, List.length_cons, List.length_nil, Nat.reduceAdd, Nat.reduceSub, Array.replicate_succ, Array.replicate_zero, List.push_toArray, List.append_toArray, List.nil_append, List.cons_append]
  gi_wp2
  clear hbl
  gi_loopw [7] (fun v7 wr => ∃ k : Nat, v7 = .int .i64 (k : Int) ∧ k ≤ n ∧ J k wr) (fun v7 _ => n - (numOf v7).toNat)
  case atStart => exact ⟨0, rfl, Nat.zero_le _, H0.out⟩
  case round =>
    obtain ⟨k, rfl, hk, hJk⟩ := hrel
    have HJk := Lib.hid hJk
    clear hJk
    by_cases hlt : k < n
    · have hkl : k < L.length := by rw [HN.out]; exact hlt
      obtain ⟨g, off, rfl, hgw, hc⟩ := cells14 (HR.out k wr HJk.out) hkl
      have HY' := Lib.hid (HY.out k (wr.alloc (.cells L[k].cs.toArray 37)) L[k] (List.getElem?_eq_getElem hkl) (HJ.out _ _ _ HJk.out ((Grows.refl _).alloc _)))
      obtain ⟨c0, c1, c2, c3, c4, c5, c6, c7, c8, c9, c10, c11, c12, c13⟩ := cells14_at hc
      clear hc
      generalize L[k] = x at *
      obtain ⟨fn, tmps, assign, body, hy, hRd⟩ := HY'.out
      have HRd := Lib.hid hRd
      clear hRd HY'
      unfold Sn.cs at hy HRd
      have hlt' : (k : Int) < (n : Int) := by omega
      have hk0 : (0 : Int) ≤ (k : Int) := by omega
      have hwr : IntKind.i64.wrap ((k : Int) + 1) = (k : Int) + 1 := IntWalk.i64_in _ (by omega)
      clear hkl hlt
      gi_wp2_with (refine HRd.out.mono ?_; rintro e W2 (⟨rfl, h2⟩ | ⟨rfl, h2⟩))
      · exact ⟨⟨k + 1, rfl, by omega, h2⟩, by simp only [numOf]; omega⟩
      · refine bodyPost_ret (results_none rfl _ _ _) rfl ?_
        exact ⟨⟨_, rfl⟩, .inr h2⟩
    · have : k = n := by omega
      subst this
      clear hlt hk
      gi_wp2
      go_end0
      exact ⟨⟨_, rfl⟩, .inl HJk.out⟩
end Go.Proofs.Ytcailhkaeledbaa
