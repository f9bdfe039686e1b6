/-
  AgeOrder: the law's walk.
-/
import Derived.Test.YtilmihmjohjplaaNmJ
import Derived.Deep.DeepCutAuto
namespace Go.Proofs.Ytilmihmjohjplaa
open Go.RowKit

theorem all_one (x y : Nm) : ([y].all fun m => decide (x.s < m.s)) = decide (x.s < y.s) := by simp
theorem rd1 (w : World) (x : Nm) : Rd (w.alloc (.cells #[.int .i64 x.s, .int .i64 x.i, .int .i64 x.t] 23)) (some ⟨w.heap.size, 0, none⟩) (nms [x]) := rd_new w #[.int .i64 x.s, .int .i64 x.i, .int .i64 x.t] 23 (0, 0)

theorem rd1e (W W' : World) (x : Nm) (g : Nat) (hg : g = W.heap.size) (h : Grows (W.alloc (.cells #[.int .i64 x.s, .int .i64 x.i, .int .i64 x.t] 23)) W') : Rd W' (some ⟨g, 0, none⟩) (nms [x]) := by subst hg; exact (rd1 W x).grows h

theorem older_t (x y : Nm) (h : x.s < y.s) (w : World) : Calls Try.prog 7 #[.agg #[.int .i64 x.s, .int .i64 x.i, .int .i64 x.t], .agg #[.int .i64 y.s, .int .i64 y.i, .int .i64 y.t]] w fun e w' => e = .returned (.bool true) ∧ Grows w w' := by
  have := older_any x y w
  rwa [decide_eq_true h] at this
theorem older_f (x y : Nm) (h : ¬ x.s < y.s) (w : World) : Calls Try.prog 7 #[.agg #[.int .i64 x.s, .int .i64 x.i, .int .i64 x.t], .agg #[.int .i64 y.s, .int .i64 y.i, .int .i64 y.t]] w fun e w' => e = .returned (.bool false) ∧ Grows w w' := by
  have := older_any x y w
  rwa [decide_eq_false h] at this
theorem range_at {w : World} {g o : Nat} {x : Nm} (h0 : w.cell? ⟨g, o, none⟩ = some (.int .i64 x.s)) (h1 : w.cell? ⟨g, o + 1, none⟩ = some (.int .i64 x.i)) (h2 : w.cell? ⟨g, o + 2, none⟩ = some (.int .i64 x.t)) : w.rangeAt g o x.cs := by
  intro j v hv
  unfold Nm.cs at hv
  match j with
  | 0 => cases hv; exact h0
  | 1 => cases hv; exact h1
  | 2 => cases hv; exact h2
  | j + 3 => simp at hv
theorem range_rdk {w : World} {g off k : Nat} {l : List Nm} {y : Nm} (h : Rd w (some ⟨g, off, none⟩) (nms l)) (hk : k < l.length) (hy : l[k] = y) : w.rangeAt g (off + k * 3) y.cs := by
  subst hy
  obtain ⟨g', off', he, _, c0, c1, c2⟩ := cells3 h hk
  injection he with he
  injection he with e1 e2
  subst e1
  subst e2
  exact range_at c0 c1 c2

set_option maxRecDepth 100000 in
set_option maxHeartbeats 4000000 in
theorem ageOrder_walk (a b c : Nm) (l : List Nm) (n : Nat) (hn : l.length = n) (ad : Option Addr) (cap : Nat) (w : World) (hrd : Rd w ad (nms l)) (hcap : n ≤ cap) :
    Calls Try.prog 3 #[a.v, b.v, c.v, .slice ad n cap] w fun e w' => e = .returned (.bool true) ∧ Grows w w' := by
  have HN := Lib.hid hn
  have Hrd := Lib.hid hrd
  clear hn hrd
  have A0 := Lib.hid (((At.new w 23 #[.int .i64 a.s, .int .i64 a.i, .int .i64 a.t]).alloc (.cells #[.int .i64 b.s, .int .i64 b.i, .int .i64 b.t] 23)).alloc (.cells #[.int .i64 c.s, .int .i64 c.i, .int .i64 c.t] 23))
  have B0 := (At.new (w.alloc (.cells #[.int .i64 a.s, .int .i64 a.i, .int .i64 a.t] 23)) 23 #[.int .i64 b.s, .int .i64 b.i, .int .i64 b.t]).alloc (.cells #[.int .i64 c.s, .int .i64 c.i, .int .i64 c.t] 23)
  have C0 := At.new ((w.alloc (.cells #[.int .i64 a.s, .int .i64 a.i, .int .i64 a.t] 23)).alloc (.cells #[.int .i64 b.s, .int .i64 b.i, .int .i64 b.t] 23)) 23 #[.int .i64 c.s, .int .i64 c.i, .int .i64 c.t]
  simp only [World.size_alloc] at B0 C0
  have B0 := Lib.hid B0
  have C0 := Lib.hid C0
  have G0 := ((((Grows.refl w).alloc (.cells #[.int .i64 a.s, .int .i64 a.i, .int .i64 a.t] 23)).alloc (.cells #[.int .i64 b.s, .int .i64 b.i, .int .i64 b.t] 23)).alloc (.cells #[.int .i64 c.s, .int .i64 c.i, .int .i64 c.t] 23))
  unfold Nm.v
  go_enter Try.func3, Try.ntmps3
  go_wp2_with fail
  generalize hW0 : ((w.alloc (.cells #[.int .i64 a.s, .int .i64 a.i, .int .i64 a.t] 23)).alloc (.cells #[.int .i64 b.s, .int .i64 b.i, .int .i64 b.t] 23)).alloc (.cells #[.int .i64 c.s, .int .i64 c.i, .int .i64 c.t] 23) = W0 at *
  clear hW0
  refine (great_any _ _ _ _).mono ?_
  rintro e w1 ⟨rfl, rfl⟩
  by_cases hbig : (n : Int) > 200
  · rw [decide_eq_true hbig]
    clear hbig
    go_wp2_with fail
    refine (wakes_any _).mono ?_
    rintro e w2 ⟨rfl, h2⟩
    go_wp2_with fail
    go_ret
    exact ⟨rfl, G0.trans h2⟩
  rw [decide_eq_false hbig]
  generalize hp1 : w.heap.size + 1 = p1 at *
  generalize hp2 : p1 + 1 = p2 at *
  generalize hp0 : w.heap.size = p0 at *
  clear hp0 hp1 hp2
  have hn2 : n ≤ 200 := by omega
  clear hbig
  have RL := Lib.hid (Hrd.out.grows G0)
  clear Hrd
  have hA : Hid (∀ W, Grows W0 W → At W p0 23 #[.int .i64 a.s, .int .i64 a.i, .int .i64 a.t]) := fun W hW => A0.out.grows hW
  have hB : Hid (∀ W, Grows W0 W → At W p1 23 #[.int .i64 b.s, .int .i64 b.i, .int .i64 b.t]) := fun W hW => B0.out.grows hW
  have hC : Hid (∀ W, Grows W0 W → At W p2 23 #[.int .i64 c.s, .int .i64 c.i, .int .i64 c.t]) := fun W hW => C0.out.grows hW
  have HKS : Hid (∀ W, Grows W0 W → Grows W0 W ∧ W.cell? ⟨p0, 0, none⟩ = some (.int .i64 a.s) ∧ W.cell? ⟨p0, 1, none⟩ = some (.int .i64 a.i) ∧ W.cell? ⟨p0, 2, none⟩ = some (.int .i64 a.t) ∧ W.cell? ⟨p1, 0, none⟩ = some (.int .i64 b.s) ∧ W.cell? ⟨p1, 1, none⟩ = some (.int .i64 b.i) ∧ W.cell? ⟨p1, 2, none⟩ = some (.int .i64 b.t)) :=
    fun W hW => ⟨hW, (hA.out W hW).cell 0, (hA.out W hW).cell 1, (hA.out W hW).cell 2, (hB.out W hW).cell 0, (hB.out W hW).cell 1, (hB.out W hW).cell 2⟩
  have g0 := Grows.refl W0
  have g0d := g0.drew
  have g1 := (g0.alloc (.cells #[.int .i64 b.s, .int .i64 b.i, .int .i64 b.t] 23))
  have g1d := g1.drew
  have g2 := g0d.alloc (.cells #[.int .i64 b.s, .int .i64 b.i, .int .i64 b.t] 23)
  have CA : Hid (∀ (W : World) (g : Nat), Rd W (some ⟨g, 0, none⟩) (nms [b]) → Calls Try.prog 6 #[.agg #[.int .i64 a.s, .int .i64 a.i, .int .i64 a.t], .slice (some ⟨g, 0, none⟩) 1 1] W fun e w' => e = .returned (.bool (decide (a.s < b.s))) ∧ Grows W w') := fun W g h => by
    have := waits_any a [b] 1 rfl _ 1 _ h (by omega)
    rwa [all_one] at this
  have CB : Hid (∀ (W : World) (g : Nat), Rd W (some ⟨g, 0, none⟩) (nms [a]) → Calls Try.prog 6 #[.agg #[.int .i64 b.s, .int .i64 b.i, .int .i64 b.t], .slice (some ⟨g, 0, none⟩) 1 1] W fun e w' => e = .returned (.bool (decide (b.s < a.s))) ∧ Grows W w') := fun W g h => by
    have := waits_any b [a] 1 rfl _ 1 _ h (by omega)
    rwa [all_one] at this
  have k1 := g0.alloc (.cells #[.int .i64 a.s, .int .i64 a.i, .int .i64 a.t] 23)
  have k2 := k1.drew
  have k3 := g0d.alloc (.cells #[.int .i64 a.s, .int .i64 a.i, .int .i64 a.t] 23)
  have k4 := g1.alloc (.cells #[.int .i64 a.s, .int .i64 a.i, .int .i64 a.t] 23)
  have k5 := k4.drew
  have k6 := k1.alloc (.cells #[.int .i64 b.s, .int .i64 b.i, .int .i64 b.t] 23)
  have k7 := k6.drew
  go_upto_region 3 with fail
  go_cut [9, 10] (fun x y W => x = .bool (decide (a.s < b.s)) ∧ y = .bool (decide (b.s < a.s)) ∧ Grows W0 W)
  case first =>
    go_region_held3 (fun W => Grows W0 W ∧ W.cell? ⟨p0, 0, none⟩ = some (.int .i64 a.s) ∧ W.cell? ⟨p0, 1, none⟩ = some (.int .i64 a.i) ∧ W.cell? ⟨p0, 2, none⟩ = some (.int .i64 a.t) ∧ W.cell? ⟨p1, 0, none⟩ = some (.int .i64 b.s) ∧ W.cell? ⟨p1, 1, none⟩ = some (.int .i64 b.i) ∧ W.cell? ⟨p1, 2, none⟩ = some (.int .i64 b.t)) (exact HKS.out _ (by assumption)) (first
      | (go_at_call 6; (with_reducible refine (CA.out _ _ ?_).mono ?_); (first | exact rd1e W0 _ b _ rfl (Grows.refl _) | exact rd1e W0 _ b _ (World.size_alloc _ _).symm (Grows.refl _) | exact rd1e W0 _ b _ rfl ((Grows.refl _).drew) | exact rd1e W0 _ b _ (World.size_alloc _ _).symm ((Grows.refl _).drew) | exact rd1e W0 _ b _ rfl ((Grows.refl _).alloc _) | exact rd1e W0 _ b _ (World.size_alloc _ _).symm ((Grows.refl _).alloc _) | exact rd1e W0 _ b _ rfl (((Grows.refl _).alloc _).drew) | exact rd1e W0 _ b _ (World.size_alloc _ _).symm (((Grows.refl _).alloc _).drew) | exact rd1e W0 _ b _ rfl (((Grows.refl _).drew).alloc _) | exact rd1e W0 _ b _ (World.size_alloc _ _).symm (((Grows.refl _).drew).alloc _) | exact rd1e W0 _ b _ rfl ((((Grows.refl _).drew).alloc _).drew) | exact rd1e W0 _ b _ (World.size_alloc _ _).symm ((((Grows.refl _).drew).alloc _).drew) | exact rd1e W0.drew _ b _ rfl (Grows.refl _) | exact rd1e W0.drew _ b _ (World.size_alloc _ _).symm (Grows.refl _) | exact rd1e W0.drew _ b _ rfl ((Grows.refl _).drew) | exact rd1e W0.drew _ b _ (World.size_alloc _ _).symm ((Grows.refl _).drew) | exact rd1e W0.drew _ b _ rfl ((Grows.refl _).alloc _) | exact rd1e W0.drew _ b _ (World.size_alloc _ _).symm ((Grows.refl _).alloc _) | exact rd1e W0.drew _ b _ rfl (((Grows.refl _).alloc _).drew) | exact rd1e W0.drew _ b _ (World.size_alloc _ _).symm (((Grows.refl _).alloc _).drew) | exact rd1e W0.drew _ b _ rfl (((Grows.refl _).drew).alloc _) | exact rd1e W0.drew _ b _ (World.size_alloc _ _).symm (((Grows.refl _).drew).alloc _) | exact rd1e W0.drew _ b _ rfl ((((Grows.refl _).drew).alloc _).drew) | exact rd1e W0.drew _ b _ (World.size_alloc _ _).symm ((((Grows.refl _).drew).alloc _).drew) | exact rd1e (W0.alloc (.cells #[.int .i64 a.s, .int .i64 a.i, .int .i64 a.t] 23)) _ b _ rfl (Grows.refl _) | exact rd1e (W0.alloc (.cells #[.int .i64 a.s, .int .i64 a.i, .int .i64 a.t] 23)) _ b _ (World.size_alloc _ _).symm (Grows.refl _) | exact rd1e (W0.alloc (.cells #[.int .i64 a.s, .int .i64 a.i, .int .i64 a.t] 23)) _ b _ rfl ((Grows.refl _).drew) | exact rd1e (W0.alloc (.cells #[.int .i64 a.s, .int .i64 a.i, .int .i64 a.t] 23)) _ b _ (World.size_alloc _ _).symm ((Grows.refl _).drew) | exact rd1e (W0.alloc (.cells #[.int .i64 a.s, .int .i64 a.i, .int .i64 a.t] 23)) _ b _ rfl ((Grows.refl _).alloc _) | exact rd1e (W0.alloc (.cells #[.int .i64 a.s, .int .i64 a.i, .int .i64 a.t] 23)) _ b _ (World.size_alloc _ _).symm ((Grows.refl _).alloc _) | exact rd1e (W0.alloc (.cells #[.int .i64 a.s, .int .i64 a.i, .int .i64 a.t] 23)) _ b _ rfl (((Grows.refl _).alloc _).drew) | exact rd1e (W0.alloc (.cells #[.int .i64 a.s, .int .i64 a.i, .int .i64 a.t] 23)) _ b _ (World.size_alloc _ _).symm (((Grows.refl _).alloc _).drew) | exact rd1e (W0.alloc (.cells #[.int .i64 a.s, .int .i64 a.i, .int .i64 a.t] 23)) _ b _ rfl (((Grows.refl _).drew).alloc _) | exact rd1e (W0.alloc (.cells #[.int .i64 a.s, .int .i64 a.i, .int .i64 a.t] 23)) _ b _ (World.size_alloc _ _).symm (((Grows.refl _).drew).alloc _) | exact rd1e (W0.alloc (.cells #[.int .i64 a.s, .int .i64 a.i, .int .i64 a.t] 23)) _ b _ rfl ((((Grows.refl _).drew).alloc _).drew) | exact rd1e (W0.alloc (.cells #[.int .i64 a.s, .int .i64 a.i, .int .i64 a.t] 23)) _ b _ (World.size_alloc _ _).symm ((((Grows.refl _).drew).alloc _).drew) | exact rd1e (W0.alloc (.cells #[.int .i64 a.s, .int .i64 a.i, .int .i64 a.t] 23)).drew _ b _ rfl (Grows.refl _) | exact rd1e (W0.alloc (.cells #[.int .i64 a.s, .int .i64 a.i, .int .i64 a.t] 23)).drew _ b _ (World.size_alloc _ _).symm (Grows.refl _) | exact rd1e (W0.alloc (.cells #[.int .i64 a.s, .int .i64 a.i, .int .i64 a.t] 23)).drew _ b _ rfl ((Grows.refl _).drew) | exact rd1e (W0.alloc (.cells #[.int .i64 a.s, .int .i64 a.i, .int .i64 a.t] 23)).drew _ b _ (World.size_alloc _ _).symm ((Grows.refl _).drew) | exact rd1e (W0.alloc (.cells #[.int .i64 a.s, .int .i64 a.i, .int .i64 a.t] 23)).drew _ b _ rfl ((Grows.refl _).alloc _) | exact rd1e (W0.alloc (.cells #[.int .i64 a.s, .int .i64 a.i, .int .i64 a.t] 23)).drew _ b _ (World.size_alloc _ _).symm ((Grows.refl _).alloc _) | exact rd1e (W0.alloc (.cells #[.int .i64 a.s, .int .i64 a.i, .int .i64 a.t] 23)).drew _ b _ rfl (((Grows.refl _).alloc _).drew) | exact rd1e (W0.alloc (.cells #[.int .i64 a.s, .int .i64 a.i, .int .i64 a.t] 23)).drew _ b _ (World.size_alloc _ _).symm (((Grows.refl _).alloc _).drew) | exact rd1e (W0.alloc (.cells #[.int .i64 a.s, .int .i64 a.i, .int .i64 a.t] 23)).drew _ b _ rfl (((Grows.refl _).drew).alloc _) | exact rd1e (W0.alloc (.cells #[.int .i64 a.s, .int .i64 a.i, .int .i64 a.t] 23)).drew _ b _ (World.size_alloc _ _).symm (((Grows.refl _).drew).alloc _) | exact rd1e (W0.alloc (.cells #[.int .i64 a.s, .int .i64 a.i, .int .i64 a.t] 23)).drew _ b _ rfl ((((Grows.refl _).drew).alloc _).drew) | exact rd1e (W0.alloc (.cells #[.int .i64 a.s, .int .i64 a.i, .int .i64 a.t] 23)).drew _ b _ (World.size_alloc _ _).symm ((((Grows.refl _).drew).alloc _).drew) | exact rd1e (W0.drew.alloc (.cells #[.int .i64 a.s, .int .i64 a.i, .int .i64 a.t] 23)) _ b _ rfl (Grows.refl _) | exact rd1e (W0.drew.alloc (.cells #[.int .i64 a.s, .int .i64 a.i, .int .i64 a.t] 23)) _ b _ (World.size_alloc _ _).symm (Grows.refl _) | exact rd1e (W0.drew.alloc (.cells #[.int .i64 a.s, .int .i64 a.i, .int .i64 a.t] 23)) _ b _ rfl ((Grows.refl _).drew) | exact rd1e (W0.drew.alloc (.cells #[.int .i64 a.s, .int .i64 a.i, .int .i64 a.t] 23)) _ b _ (World.size_alloc _ _).symm ((Grows.refl _).drew) | exact rd1e (W0.drew.alloc (.cells #[.int .i64 a.s, .int .i64 a.i, .int .i64 a.t] 23)) _ b _ rfl ((Grows.refl _).alloc _) | exact rd1e (W0.drew.alloc (.cells #[.int .i64 a.s, .int .i64 a.i, .int .i64 a.t] 23)) _ b _ (World.size_alloc _ _).symm ((Grows.refl _).alloc _) | exact rd1e (W0.drew.alloc (.cells #[.int .i64 a.s, .int .i64 a.i, .int .i64 a.t] 23)) _ b _ rfl (((Grows.refl _).alloc _).drew) | exact rd1e (W0.drew.alloc (.cells #[.int .i64 a.s, .int .i64 a.i, .int .i64 a.t] 23)) _ b _ (World.size_alloc _ _).symm (((Grows.refl _).alloc _).drew) | exact rd1e (W0.drew.alloc (.cells #[.int .i64 a.s, .int .i64 a.i, .int .i64 a.t] 23)) _ b _ rfl (((Grows.refl _).drew).alloc _) | exact rd1e (W0.drew.alloc (.cells #[.int .i64 a.s, .int .i64 a.i, .int .i64 a.t] 23)) _ b _ (World.size_alloc _ _).symm (((Grows.refl _).drew).alloc _) | exact rd1e (W0.drew.alloc (.cells #[.int .i64 a.s, .int .i64 a.i, .int .i64 a.t] 23)) _ b _ rfl ((((Grows.refl _).drew).alloc _).drew) | exact rd1e (W0.drew.alloc (.cells #[.int .i64 a.s, .int .i64 a.i, .int .i64 a.t] 23)) _ b _ (World.size_alloc _ _).symm ((((Grows.refl _).drew).alloc _).drew)); rintro e wa ⟨rfl, hga⟩; have ka := Grows.trans (a := W0) (by assumption) hga; have kad := ka.drew; have kb' := ka.alloc (.cells #[.int .i64 a.s, .int .i64 a.i, .int .i64 a.t] 23); have kbd := kb'.drew; have kbe := kad.alloc (.cells #[.int .i64 a.s, .int .i64 a.i, .int .i64 a.t] 23))
      | (go_at_call 6; (with_reducible refine (CB.out _ _ ?_).mono ?_); (first | exact rd1e wa _ a _ rfl (Grows.refl _) | exact rd1e wa _ a _ rfl (Grows.refl _).drew | exact rd1e wa.drew _ a _ rfl (Grows.refl _) | exact rd1e W0 _ a _ rfl (Grows.trans (Grows.refl _) hga) | exact rd1e W0 _ a _ (World.size_alloc _ _).symm (Grows.trans (Grows.refl _) hga) | exact rd1e W0 _ a _ rfl (Grows.trans ((Grows.refl _).drew) hga) | exact rd1e W0 _ a _ (World.size_alloc _ _).symm (Grows.trans ((Grows.refl _).drew) hga) | exact rd1e W0 _ a _ rfl (Grows.trans ((Grows.refl _).alloc _) hga) | exact rd1e W0 _ a _ (World.size_alloc _ _).symm (Grows.trans ((Grows.refl _).alloc _) hga) | exact rd1e W0 _ a _ rfl (Grows.trans (((Grows.refl _).alloc _).drew) hga) | exact rd1e W0 _ a _ (World.size_alloc _ _).symm (Grows.trans (((Grows.refl _).alloc _).drew) hga) | exact rd1e W0 _ a _ rfl (Grows.trans (((Grows.refl _).drew).alloc _) hga) | exact rd1e W0 _ a _ (World.size_alloc _ _).symm (Grows.trans (((Grows.refl _).drew).alloc _) hga) | exact rd1e W0 _ a _ rfl (Grows.trans ((((Grows.refl _).drew).alloc _).drew) hga) | exact rd1e W0 _ a _ (World.size_alloc _ _).symm (Grows.trans ((((Grows.refl _).drew).alloc _).drew) hga) | exact rd1e W0 _ a _ rfl ((Grows.trans (Grows.refl _) hga).drew) | exact rd1e W0 _ a _ (World.size_alloc _ _).symm ((Grows.trans (Grows.refl _) hga).drew) | exact rd1e W0 _ a _ rfl ((Grows.trans ((Grows.refl _).drew) hga).drew) | exact rd1e W0 _ a _ (World.size_alloc _ _).symm ((Grows.trans ((Grows.refl _).drew) hga).drew) | exact rd1e W0 _ a _ rfl ((Grows.trans ((Grows.refl _).alloc _) hga).drew) | exact rd1e W0 _ a _ (World.size_alloc _ _).symm ((Grows.trans ((Grows.refl _).alloc _) hga).drew) | exact rd1e W0 _ a _ rfl ((Grows.trans (((Grows.refl _).alloc _).drew) hga).drew) | exact rd1e W0 _ a _ (World.size_alloc _ _).symm ((Grows.trans (((Grows.refl _).alloc _).drew) hga).drew) | exact rd1e W0 _ a _ rfl ((Grows.trans (((Grows.refl _).drew).alloc _) hga).drew) | exact rd1e W0 _ a _ (World.size_alloc _ _).symm ((Grows.trans (((Grows.refl _).drew).alloc _) hga).drew) | exact rd1e W0 _ a _ rfl ((Grows.trans ((((Grows.refl _).drew).alloc _).drew) hga).drew) | exact rd1e W0 _ a _ (World.size_alloc _ _).symm ((Grows.trans ((((Grows.refl _).drew).alloc _).drew) hga).drew) | exact rd1e W0.drew _ a _ rfl (Grows.trans (Grows.refl _) hga) | exact rd1e W0.drew _ a _ (World.size_alloc _ _).symm (Grows.trans (Grows.refl _) hga) | exact rd1e W0.drew _ a _ rfl (Grows.trans ((Grows.refl _).drew) hga) | exact rd1e W0.drew _ a _ (World.size_alloc _ _).symm (Grows.trans ((Grows.refl _).drew) hga) | exact rd1e W0.drew _ a _ rfl (Grows.trans ((Grows.refl _).alloc _) hga) | exact rd1e W0.drew _ a _ (World.size_alloc _ _).symm (Grows.trans ((Grows.refl _).alloc _) hga) | exact rd1e W0.drew _ a _ rfl (Grows.trans (((Grows.refl _).alloc _).drew) hga) | exact rd1e W0.drew _ a _ (World.size_alloc _ _).symm (Grows.trans (((Grows.refl _).alloc _).drew) hga) | exact rd1e W0.drew _ a _ rfl (Grows.trans (((Grows.refl _).drew).alloc _) hga) | exact rd1e W0.drew _ a _ (World.size_alloc _ _).symm (Grows.trans (((Grows.refl _).drew).alloc _) hga) | exact rd1e W0.drew _ a _ rfl (Grows.trans ((((Grows.refl _).drew).alloc _).drew) hga) | exact rd1e W0.drew _ a _ (World.size_alloc _ _).symm (Grows.trans ((((Grows.refl _).drew).alloc _).drew) hga) | exact rd1e W0.drew _ a _ rfl ((Grows.trans (Grows.refl _) hga).drew) | exact rd1e W0.drew _ a _ (World.size_alloc _ _).symm ((Grows.trans (Grows.refl _) hga).drew) | exact rd1e W0.drew _ a _ rfl ((Grows.trans ((Grows.refl _).drew) hga).drew) | exact rd1e W0.drew _ a _ (World.size_alloc _ _).symm ((Grows.trans ((Grows.refl _).drew) hga).drew) | exact rd1e W0.drew _ a _ rfl ((Grows.trans ((Grows.refl _).alloc _) hga).drew) | exact rd1e W0.drew _ a _ (World.size_alloc _ _).symm ((Grows.trans ((Grows.refl _).alloc _) hga).drew) | exact rd1e W0.drew _ a _ rfl ((Grows.trans (((Grows.refl _).alloc _).drew) hga).drew) | exact rd1e W0.drew _ a _ (World.size_alloc _ _).symm ((Grows.trans (((Grows.refl _).alloc _).drew) hga).drew) | exact rd1e W0.drew _ a _ rfl ((Grows.trans (((Grows.refl _).drew).alloc _) hga).drew) | exact rd1e W0.drew _ a _ (World.size_alloc _ _).symm ((Grows.trans (((Grows.refl _).drew).alloc _) hga).drew) | exact rd1e W0.drew _ a _ rfl ((Grows.trans ((((Grows.refl _).drew).alloc _).drew) hga).drew) | exact rd1e W0.drew _ a _ (World.size_alloc _ _).symm ((Grows.trans ((((Grows.refl _).drew).alloc _).drew) hga).drew) | exact rd1e (W0.alloc (.cells #[.int .i64 b.s, .int .i64 b.i, .int .i64 b.t] 23)) _ a _ rfl (Grows.trans (Grows.refl _) hga) | exact rd1e (W0.alloc (.cells #[.int .i64 b.s, .int .i64 b.i, .int .i64 b.t] 23)) _ a _ (World.size_alloc _ _).symm (Grows.trans (Grows.refl _) hga) | exact rd1e (W0.alloc (.cells #[.int .i64 b.s, .int .i64 b.i, .int .i64 b.t] 23)) _ a _ rfl (Grows.trans ((Grows.refl _).drew) hga) | exact rd1e (W0.alloc (.cells #[.int .i64 b.s, .int .i64 b.i, .int .i64 b.t] 23)) _ a _ (World.size_alloc _ _).symm (Grows.trans ((Grows.refl _).drew) hga) | exact rd1e (W0.alloc (.cells #[.int .i64 b.s, .int .i64 b.i, .int .i64 b.t] 23)) _ a _ rfl (Grows.trans ((Grows.refl _).alloc _) hga) | exact rd1e (W0.alloc (.cells #[.int .i64 b.s, .int .i64 b.i, .int .i64 b.t] 23)) _ a _ (World.size_alloc _ _).symm (Grows.trans ((Grows.refl _).alloc _) hga) | exact rd1e (W0.alloc (.cells #[.int .i64 b.s, .int .i64 b.i, .int .i64 b.t] 23)) _ a _ rfl (Grows.trans (((Grows.refl _).alloc _).drew) hga) | exact rd1e (W0.alloc (.cells #[.int .i64 b.s, .int .i64 b.i, .int .i64 b.t] 23)) _ a _ (World.size_alloc _ _).symm (Grows.trans (((Grows.refl _).alloc _).drew) hga) | exact rd1e (W0.alloc (.cells #[.int .i64 b.s, .int .i64 b.i, .int .i64 b.t] 23)) _ a _ rfl (Grows.trans (((Grows.refl _).drew).alloc _) hga) | exact rd1e (W0.alloc (.cells #[.int .i64 b.s, .int .i64 b.i, .int .i64 b.t] 23)) _ a _ (World.size_alloc _ _).symm (Grows.trans (((Grows.refl _).drew).alloc _) hga) | exact rd1e (W0.alloc (.cells #[.int .i64 b.s, .int .i64 b.i, .int .i64 b.t] 23)) _ a _ rfl (Grows.trans ((((Grows.refl _).drew).alloc _).drew) hga) | exact rd1e (W0.alloc (.cells #[.int .i64 b.s, .int .i64 b.i, .int .i64 b.t] 23)) _ a _ (World.size_alloc _ _).symm (Grows.trans ((((Grows.refl _).drew).alloc _).drew) hga) | exact rd1e (W0.alloc (.cells #[.int .i64 b.s, .int .i64 b.i, .int .i64 b.t] 23)) _ a _ rfl ((Grows.trans (Grows.refl _) hga).drew) | exact rd1e (W0.alloc (.cells #[.int .i64 b.s, .int .i64 b.i, .int .i64 b.t] 23)) _ a _ (World.size_alloc _ _).symm ((Grows.trans (Grows.refl _) hga).drew) | exact rd1e (W0.alloc (.cells #[.int .i64 b.s, .int .i64 b.i, .int .i64 b.t] 23)) _ a _ rfl ((Grows.trans ((Grows.refl _).drew) hga).drew) | exact rd1e (W0.alloc (.cells #[.int .i64 b.s, .int .i64 b.i, .int .i64 b.t] 23)) _ a _ (World.size_alloc _ _).symm ((Grows.trans ((Grows.refl _).drew) hga).drew) | exact rd1e (W0.alloc (.cells #[.int .i64 b.s, .int .i64 b.i, .int .i64 b.t] 23)) _ a _ rfl ((Grows.trans ((Grows.refl _).alloc _) hga).drew) | exact rd1e (W0.alloc (.cells #[.int .i64 b.s, .int .i64 b.i, .int .i64 b.t] 23)) _ a _ (World.size_alloc _ _).symm ((Grows.trans ((Grows.refl _).alloc _) hga).drew) | exact rd1e (W0.alloc (.cells #[.int .i64 b.s, .int .i64 b.i, .int .i64 b.t] 23)) _ a _ rfl ((Grows.trans (((Grows.refl _).alloc _).drew) hga).drew) | exact rd1e (W0.alloc (.cells #[.int .i64 b.s, .int .i64 b.i, .int .i64 b.t] 23)) _ a _ (World.size_alloc _ _).symm ((Grows.trans (((Grows.refl _).alloc _).drew) hga).drew) | exact rd1e (W0.alloc (.cells #[.int .i64 b.s, .int .i64 b.i, .int .i64 b.t] 23)) _ a _ rfl ((Grows.trans (((Grows.refl _).drew).alloc _) hga).drew) | exact rd1e (W0.alloc (.cells #[.int .i64 b.s, .int .i64 b.i, .int .i64 b.t] 23)) _ a _ (World.size_alloc _ _).symm ((Grows.trans (((Grows.refl _).drew).alloc _) hga).drew) | exact rd1e (W0.alloc (.cells #[.int .i64 b.s, .int .i64 b.i, .int .i64 b.t] 23)) _ a _ rfl ((Grows.trans ((((Grows.refl _).drew).alloc _).drew) hga).drew) | exact rd1e (W0.alloc (.cells #[.int .i64 b.s, .int .i64 b.i, .int .i64 b.t] 23)) _ a _ (World.size_alloc _ _).symm ((Grows.trans ((((Grows.refl _).drew).alloc _).drew) hga).drew) | exact rd1e (W0.alloc (.cells #[.int .i64 b.s, .int .i64 b.i, .int .i64 b.t] 23)).drew _ a _ rfl (Grows.trans (Grows.refl _) hga) | exact rd1e (W0.alloc (.cells #[.int .i64 b.s, .int .i64 b.i, .int .i64 b.t] 23)).drew _ a _ (World.size_alloc _ _).symm (Grows.trans (Grows.refl _) hga) | exact rd1e (W0.alloc (.cells #[.int .i64 b.s, .int .i64 b.i, .int .i64 b.t] 23)).drew _ a _ rfl (Grows.trans ((Grows.refl _).drew) hga) | exact rd1e (W0.alloc (.cells #[.int .i64 b.s, .int .i64 b.i, .int .i64 b.t] 23)).drew _ a _ (World.size_alloc _ _).symm (Grows.trans ((Grows.refl _).drew) hga) | exact rd1e (W0.alloc (.cells #[.int .i64 b.s, .int .i64 b.i, .int .i64 b.t] 23)).drew _ a _ rfl (Grows.trans ((Grows.refl _).alloc _) hga) | exact rd1e (W0.alloc (.cells #[.int .i64 b.s, .int .i64 b.i, .int .i64 b.t] 23)).drew _ a _ (World.size_alloc _ _).symm (Grows.trans ((Grows.refl _).alloc _) hga) | exact rd1e (W0.alloc (.cells #[.int .i64 b.s, .int .i64 b.i, .int .i64 b.t] 23)).drew _ a _ rfl (Grows.trans (((Grows.refl _).alloc _).drew) hga) | exact rd1e (W0.alloc (.cells #[.int .i64 b.s, .int .i64 b.i, .int .i64 b.t] 23)).drew _ a _ (World.size_alloc _ _).symm (Grows.trans (((Grows.refl _).alloc _).drew) hga) | exact rd1e (W0.alloc (.cells #[.int .i64 b.s, .int .i64 b.i, .int .i64 b.t] 23)).drew _ a _ rfl (Grows.trans (((Grows.refl _).drew).alloc _) hga) | exact rd1e (W0.alloc (.cells #[.int .i64 b.s, .int .i64 b.i, .int .i64 b.t] 23)).drew _ a _ (World.size_alloc _ _).symm (Grows.trans (((Grows.refl _).drew).alloc _) hga) | exact rd1e (W0.alloc (.cells #[.int .i64 b.s, .int .i64 b.i, .int .i64 b.t] 23)).drew _ a _ rfl (Grows.trans ((((Grows.refl _).drew).alloc _).drew) hga) | exact rd1e (W0.alloc (.cells #[.int .i64 b.s, .int .i64 b.i, .int .i64 b.t] 23)).drew _ a _ (World.size_alloc _ _).symm (Grows.trans ((((Grows.refl _).drew).alloc _).drew) hga) | exact rd1e (W0.alloc (.cells #[.int .i64 b.s, .int .i64 b.i, .int .i64 b.t] 23)).drew _ a _ rfl ((Grows.trans (Grows.refl _) hga).drew) | exact rd1e (W0.alloc (.cells #[.int .i64 b.s, .int .i64 b.i, .int .i64 b.t] 23)).drew _ a _ (World.size_alloc _ _).symm ((Grows.trans (Grows.refl _) hga).drew) | exact rd1e (W0.alloc (.cells #[.int .i64 b.s, .int .i64 b.i, .int .i64 b.t] 23)).drew _ a _ rfl ((Grows.trans ((Grows.refl _).drew) hga).drew) | exact rd1e (W0.alloc (.cells #[.int .i64 b.s, .int .i64 b.i, .int .i64 b.t] 23)).drew _ a _ (World.size_alloc _ _).symm ((Grows.trans ((Grows.refl _).drew) hga).drew) | exact rd1e (W0.alloc (.cells #[.int .i64 b.s, .int .i64 b.i, .int .i64 b.t] 23)).drew _ a _ rfl ((Grows.trans ((Grows.refl _).alloc _) hga).drew) | exact rd1e (W0.alloc (.cells #[.int .i64 b.s, .int .i64 b.i, .int .i64 b.t] 23)).drew _ a _ (World.size_alloc _ _).symm ((Grows.trans ((Grows.refl _).alloc _) hga).drew) | exact rd1e (W0.alloc (.cells #[.int .i64 b.s, .int .i64 b.i, .int .i64 b.t] 23)).drew _ a _ rfl ((Grows.trans (((Grows.refl _).alloc _).drew) hga).drew) | exact rd1e (W0.alloc (.cells #[.int .i64 b.s, .int .i64 b.i, .int .i64 b.t] 23)).drew _ a _ (World.size_alloc _ _).symm ((Grows.trans (((Grows.refl _).alloc _).drew) hga).drew) | exact rd1e (W0.alloc (.cells #[.int .i64 b.s, .int .i64 b.i, .int .i64 b.t] 23)).drew _ a _ rfl ((Grows.trans (((Grows.refl _).drew).alloc _) hga).drew) | exact rd1e (W0.alloc (.cells #[.int .i64 b.s, .int .i64 b.i, .int .i64 b.t] 23)).drew _ a _ (World.size_alloc _ _).symm ((Grows.trans (((Grows.refl _).drew).alloc _) hga).drew) | exact rd1e (W0.alloc (.cells #[.int .i64 b.s, .int .i64 b.i, .int .i64 b.t] 23)).drew _ a _ rfl ((Grows.trans ((((Grows.refl _).drew).alloc _).drew) hga).drew) | exact rd1e (W0.alloc (.cells #[.int .i64 b.s, .int .i64 b.i, .int .i64 b.t] 23)).drew _ a _ (World.size_alloc _ _).symm ((Grows.trans ((((Grows.refl _).drew).alloc _).drew) hga).drew) | exact rd1e (W0.drew.alloc (.cells #[.int .i64 b.s, .int .i64 b.i, .int .i64 b.t] 23)) _ a _ rfl (Grows.trans (Grows.refl _) hga) | exact rd1e (W0.drew.alloc (.cells #[.int .i64 b.s, .int .i64 b.i, .int .i64 b.t] 23)) _ a _ (World.size_alloc _ _).symm (Grows.trans (Grows.refl _) hga) | exact rd1e (W0.drew.alloc (.cells #[.int .i64 b.s, .int .i64 b.i, .int .i64 b.t] 23)) _ a _ rfl (Grows.trans ((Grows.refl _).drew) hga) | exact rd1e (W0.drew.alloc (.cells #[.int .i64 b.s, .int .i64 b.i, .int .i64 b.t] 23)) _ a _ (World.size_alloc _ _).symm (Grows.trans ((Grows.refl _).drew) hga) | exact rd1e (W0.drew.alloc (.cells #[.int .i64 b.s, .int .i64 b.i, .int .i64 b.t] 23)) _ a _ rfl (Grows.trans ((Grows.refl _).alloc _) hga) | exact rd1e (W0.drew.alloc (.cells #[.int .i64 b.s, .int .i64 b.i, .int .i64 b.t] 23)) _ a _ (World.size_alloc _ _).symm (Grows.trans ((Grows.refl _).alloc _) hga) | exact rd1e (W0.drew.alloc (.cells #[.int .i64 b.s, .int .i64 b.i, .int .i64 b.t] 23)) _ a _ rfl (Grows.trans (((Grows.refl _).alloc _).drew) hga) | exact rd1e (W0.drew.alloc (.cells #[.int .i64 b.s, .int .i64 b.i, .int .i64 b.t] 23)) _ a _ (World.size_alloc _ _).symm (Grows.trans (((Grows.refl _).alloc _).drew) hga) | exact rd1e (W0.drew.alloc (.cells #[.int .i64 b.s, .int .i64 b.i, .int .i64 b.t] 23)) _ a _ rfl (Grows.trans (((Grows.refl _).drew).alloc _) hga) | exact rd1e (W0.drew.alloc (.cells #[.int .i64 b.s, .int .i64 b.i, .int .i64 b.t] 23)) _ a _ (World.size_alloc _ _).symm (Grows.trans (((Grows.refl _).drew).alloc _) hga) | exact rd1e (W0.drew.alloc (.cells #[.int .i64 b.s, .int .i64 b.i, .int .i64 b.t] 23)) _ a _ rfl (Grows.trans ((((Grows.refl _).drew).alloc _).drew) hga) | exact rd1e (W0.drew.alloc (.cells #[.int .i64 b.s, .int .i64 b.i, .int .i64 b.t] 23)) _ a _ (World.size_alloc _ _).symm (Grows.trans ((((Grows.refl _).drew).alloc _).drew) hga) | exact rd1e (W0.drew.alloc (.cells #[.int .i64 b.s, .int .i64 b.i, .int .i64 b.t] 23)) _ a _ rfl ((Grows.trans (Grows.refl _) hga).drew) | exact rd1e (W0.drew.alloc (.cells #[.int .i64 b.s, .int .i64 b.i, .int .i64 b.t] 23)) _ a _ (World.size_alloc _ _).symm ((Grows.trans (Grows.refl _) hga).drew) | exact rd1e (W0.drew.alloc (.cells #[.int .i64 b.s, .int .i64 b.i, .int .i64 b.t] 23)) _ a _ rfl ((Grows.trans ((Grows.refl _).drew) hga).drew) | exact rd1e (W0.drew.alloc (.cells #[.int .i64 b.s, .int .i64 b.i, .int .i64 b.t] 23)) _ a _ (World.size_alloc _ _).symm ((Grows.trans ((Grows.refl _).drew) hga).drew) | exact rd1e (W0.drew.alloc (.cells #[.int .i64 b.s, .int .i64 b.i, .int .i64 b.t] 23)) _ a _ rfl ((Grows.trans ((Grows.refl _).alloc _) hga).drew) | exact rd1e (W0.drew.alloc (.cells #[.int .i64 b.s, .int .i64 b.i, .int .i64 b.t] 23)) _ a _ (World.size_alloc _ _).symm ((Grows.trans ((Grows.refl _).alloc _) hga).drew) | exact rd1e (W0.drew.alloc (.cells #[.int .i64 b.s, .int .i64 b.i, .int .i64 b.t] 23)) _ a _ rfl ((Grows.trans (((Grows.refl _).alloc _).drew) hga).drew) | exact rd1e (W0.drew.alloc (.cells #[.int .i64 b.s, .int .i64 b.i, .int .i64 b.t] 23)) _ a _ (World.size_alloc _ _).symm ((Grows.trans (((Grows.refl _).alloc _).drew) hga).drew) | exact rd1e (W0.drew.alloc (.cells #[.int .i64 b.s, .int .i64 b.i, .int .i64 b.t] 23)) _ a _ rfl ((Grows.trans (((Grows.refl _).drew).alloc _) hga).drew) | exact rd1e (W0.drew.alloc (.cells #[.int .i64 b.s, .int .i64 b.i, .int .i64 b.t] 23)) _ a _ (World.size_alloc _ _).symm ((Grows.trans (((Grows.refl _).drew).alloc _) hga).drew) | exact rd1e (W0.drew.alloc (.cells #[.int .i64 b.s, .int .i64 b.i, .int .i64 b.t] 23)) _ a _ rfl ((Grows.trans ((((Grows.refl _).drew).alloc _).drew) hga).drew) | exact rd1e (W0.drew.alloc (.cells #[.int .i64 b.s, .int .i64 b.i, .int .i64 b.t] 23)) _ a _ (World.size_alloc _ _).symm ((Grows.trans ((((Grows.refl _).drew).alloc _).drew) hga).drew)); rintro e wb ⟨rfl, hgb⟩; have kb := Grows.trans (a := W0) (by assumption) hgb))
    all_goals (go_wp2_with fail; go_meet; exact ⟨rfl, rfl, by assumption⟩)
  case rest =>
    obtain ⟨rfl, rfl, G1⟩ := hcut
    clear CA CB g0 g0d g1 g1d g2 k1 k2 k3 k4 k5 k6 k7 HKS
    have ca := (hA.out _ G1).cell
    have cb := (hB.out _ G1).cell
    have cc := (hC.out _ G1).cell
    have OAA := Lib.hid (older_f a a (by omega))
    go_upto_region 4 with fail
    go_cut [9, 10, 74] (fun _ _ x W => x = .bool false ∧ Grows W0 W)
    case first =>
      rcases Int.lt_trichotomy a.s b.s with h | h | h
      · rw [decide_eq_true h, decide_eq_false (show ¬ b.s < a.s by omega)]
        have OAB := Lib.hid (older_t a b h)
        have hne : (a.s != b.s) = true := by simp; omega
        by_cases hbc : b.s < c.s
        · have OBC := Lib.hid (older_t b c hbc)
          have OAC := Lib.hid (older_t a c (by omega))
          clear h hbc
          clear ca cb cc
          have ca := (hA.out _ G1).cell
          have cb := (hB.out _ G1).cell
          have cc := (hC.out _ G1).cell
          go_wp2_with fail
          refine (OAA.out _).mono ?_
          rintro e w2 ⟨rfl, h2⟩
          have G2 := G1.trans h2
          clear h2
          clear ca cb cc
          have ca := (hA.out _ G2).cell
          have cb := (hB.out _ G2).cell
          have cc := (hC.out _ G2).cell
          go_wp2_with fail
          refine (OAB.out _).mono ?_
          rintro e w3 ⟨rfl, h3⟩
          have G3 := G2.trans h3
          clear h3
          clear ca cb cc
          have ca := (hA.out _ G3).cell
          have cb := (hB.out _ G3).cell
          have cc := (hC.out _ G3).cell
          go_wp2_with fail
          refine (OBC.out _).mono ?_
          rintro e w4 ⟨rfl, h4⟩
          have G4 := G3.trans h4
          clear h4
          clear ca cb cc
          have ca := (hA.out _ G4).cell
          have cb := (hB.out _ G4).cell
          have cc := (hC.out _ G4).cell
          go_wp2_with fail
          refine (OAC.out _).mono ?_
          rintro e w5 ⟨rfl, h5⟩
          have G5 := G4.trans h5
          clear h5
          clear ca cb cc
          have ca := (hA.out _ G5).cell
          have cb := (hB.out _ G5).cell
          have cc := (hC.out _ G5).cell
          go_wp2_with fail
          refine (OAB.out _).mono ?_
          rintro e w6 ⟨rfl, h6⟩
          have G6 := G5.trans h6
          clear h6
          go_wp2_with fail
          go_meet
          exact ⟨rfl, G6⟩
        · have OBC := Lib.hid (older_f b c hbc)
          clear h hbc
          clear ca cb cc
          have ca := (hA.out _ G1).cell
          have cb := (hB.out _ G1).cell
          have cc := (hC.out _ G1).cell
          go_wp2_with fail
          refine (OAA.out _).mono ?_
          rintro e w2 ⟨rfl, h2⟩
          have G2 := G1.trans h2
          clear h2
          clear ca cb cc
          have ca := (hA.out _ G2).cell
          have cb := (hB.out _ G2).cell
          have cc := (hC.out _ G2).cell
          go_wp2_with fail
          refine (OAB.out _).mono ?_
          rintro e w3 ⟨rfl, h3⟩
          have G3 := G2.trans h3
          clear h3
          clear ca cb cc
          have ca := (hA.out _ G3).cell
          have cb := (hB.out _ G3).cell
          have cc := (hC.out _ G3).cell
          go_wp2_with fail
          refine (OBC.out _).mono ?_
          rintro e w4 ⟨rfl, h4⟩
          have G4 := G3.trans h4
          clear h4
          clear ca cb cc
          have ca := (hA.out _ G4).cell
          have cb := (hB.out _ G4).cell
          have cc := (hC.out _ G4).cell
          go_wp2_with fail
          refine (OAB.out _).mono ?_
          rintro e w5 ⟨rfl, h5⟩
          have G5 := G4.trans h5
          clear h5
          go_wp2_with fail
          go_meet
          exact ⟨rfl, G5⟩
      · rw [decide_eq_false (show ¬ a.s < b.s by omega), decide_eq_false (show ¬ b.s < a.s by omega)]
        have OAB := Lib.hid (older_f a b (by omega))
        have hne : (a.s != b.s) = false := by simp [h]
        clear h
        clear ca cb cc
        have ca := (hA.out _ G1).cell
        have cb := (hB.out _ G1).cell
        have cc := (hC.out _ G1).cell
        go_wp2_with fail
        refine (OAA.out _).mono ?_
        rintro e w2 ⟨rfl, h2⟩
        have G2 := G1.trans h2
        clear h2
        clear ca cb cc
        have ca := (hA.out _ G2).cell
        have cb := (hB.out _ G2).cell
        have cc := (hC.out _ G2).cell
        go_wp2_with fail
        refine (OAB.out _).mono ?_
        rintro e w3 ⟨rfl, h3⟩
        have G3 := G2.trans h3
        clear h3
        clear ca cb cc
        have ca := (hA.out _ G3).cell
        have cb := (hB.out _ G3).cell
        have cc := (hC.out _ G3).cell
        go_wp2_with fail
        refine (OAB.out _).mono ?_
        rintro e w4 ⟨rfl, h4⟩
        have G4 := G3.trans h4
        clear h4
        go_wp2_with fail
        go_meet
        exact ⟨rfl, G4⟩
      · rw [decide_eq_false (show ¬ a.s < b.s by omega), decide_eq_true h]
        have OAB := Lib.hid (older_f a b (by omega))
        have hne : (a.s != b.s) = true := by simp; omega
        clear h
        clear ca cb cc
        have ca := (hA.out _ G1).cell
        have cb := (hB.out _ G1).cell
        have cc := (hC.out _ G1).cell
        go_wp2_with fail
        refine (OAA.out _).mono ?_
        rintro e w2 ⟨rfl, h2⟩
        have G2 := G1.trans h2
        clear h2
        clear ca cb cc
        have ca := (hA.out _ G2).cell
        have cb := (hB.out _ G2).cell
        have cc := (hC.out _ G2).cell
        go_wp2_with fail
        refine (OAB.out _).mono ?_
        rintro e w3 ⟨rfl, h3⟩
        have G3 := G2.trans h3
        clear h3
        clear ca cb cc
        have ca := (hA.out _ G3).cell
        have cb := (hB.out _ G3).cell
        have cc := (hC.out _ G3).cell
        go_wp2_with fail
        refine (OAB.out _).mono ?_
        rintro e w4 ⟨rfl, h4⟩
        have G4 := G3.trans h4
        clear h4
        go_wp2_with fail
        go_meet
        exact ⟨rfl, G4⟩
    case rest =>
      obtain ⟨rfl, G2⟩ := hcut
      clear ca cb cc OAA G1 hA hB hC A0 B0 C0
      have RL2 := Lib.hid (RL.out.grows G2)
      have GT2 := G0.trans G2
      clear RL G2
      have hz := zname
      have HO1 := Lib.hid (fun k => oth_all (l := l) k)
      have HO2 : Hid (∀ y ∈ l, ¬ y.s < (oldL l).s) := fun y hy => by have := oldL_le hy; omega
      have COL := Lib.hid (fun W hW => oldest_any l n HN.out ad cap W hW hcap (by omega))
      generalize oldL l = o at *
      go_wp2_with fail
      refine (COL.out _ RL2.out).mono ?_
      rintro e w3 ⟨rfl, h3⟩
      have RL3 := Lib.hid (RL2.out.grows h3)
      have GT3 := GT2.trans h3
      clear COL RL2 h3
      unfold Nm.v
      have O0 := Lib.hid (At.new w3 23 #[.int .i64 0, .int .i64 0, .int .i64 0])
      go_wp2_with (with_reducible refine wpList_store_mid (op := ⟨none, .store 23 (.tmp 11) (.tmp 78), _, _, _, none⟩) rfl 23 (.tmp 11) (.tmp 78) rfl (w3.heap.size) (0) #[.int .i64 o.s, .int .i64 o.i, .int .i64 o.t] ?s1a ?s1b ?s1c ?s1d ?s1e ?_)
      case s1a => rfl
      case s1b => rfl
      case s1c => exact O0.out.there 0 3 (by simp)
      case s1d => kernel_rfl
      case s1e => exact one3 _ _ _
      have O1 := Lib.hid (At.all (vs := [.int .i64 o.s, .int .i64 o.i, .int .i64 o.t]) (cs := [.int .i64 0, .int .i64 0, .int .i64 0]) O0.out rfl)
      have RL4 := Lib.hid (RL3.out.grows (Grows.setCells (Nat.le_refl _) [.int .i64 o.s, .int .i64 o.i, .int .i64 o.t] 0 ((Grows.refl w3).alloc (.cells #[.int .i64 0, .int .i64 0, .int .i64 0] 23))))
      have GT4 : Grows w ((w3.alloc (.cells #[.int .i64 0, .int .i64 0, .int .i64 0] 23)).setCells w3.heap.size 0 [.int .i64 o.s, .int .i64 o.i, .int .i64 o.t]) := Grows.setCells GT3.size _ _ (GT3.alloc _)
      generalize hWL : (w3.alloc (.cells #[.int .i64 0, .int .i64 0, .int .i64 0] 23)).setCells w3.heap.size 0 [.int .i64 o.s, .int .i64 o.i, .int .i64 o.t] = WL at *
      generalize hpo : w3.heap.size = po at *
      clear hWL hpo O0 RL3
      obtain ⟨i0, hi0, hz0, hz1, hz2⟩ := info_parts info_nm
      go_loopg [13, 14] n (fun gh v i wr => ∃ (k no : Nat), k + gh = n ∧ i = .int .i64 (k : Int) ∧ (oth o.s (l.take k)).length = no ∧ wr.ownsRow WL.heap.size 23 3 v no (nms (oth o.s (l.take k))) ∧ Grows WL wr)
      case atStart => exact ⟨0, 0, by omega, rfl, rfl, World.ownsRow_nil _ _ _ _, Grows.refl _⟩
      case round =>
        obtain ⟨k, no, hk, rfl, hno, hown, hg⟩ := hrel
        have HNO := Lib.hid hno
        have HOW := Lib.hid hown
        have hno2 : no ≤ k := by rw [← hno]; exact Nat.le_trans (oth_len _ _) (by rw [List.length_take]; omega)
        clear hno hown
        by_cases hlt : k < n
        · have hkl : k < l.length := by rw [HN.out]; exact hlt
          obtain ⟨g, off, rfl, hgw, c0, c1, c2⟩ := cells3 (RL4.out.grows hg) hkl
          have HT := Lib.hid (oth_take o.s l k hkl)
          have hgw0 : g < WL.heap.size := by
            obtain ⟨g', off', he, h, _⟩ := cells3 RL4.out hkl
            injection he with he
            injection he with e1 e2
            subst e1
            exact h
          have HYK := Lib.hid hkl
          have hold := HO2.out l[k] (List.getElem_mem hkl)
          generalize hy : l[k] = y at *
          have HYL := Lib.hid hy
          clear hy hkl
          have OF := Lib.hid (older_f y o (by omega))
          have hlt' : (k : Int) < (n : Int) := by omega
          have hk0 : (0 : Int) ≤ (k : Int) := by omega
          have co := (O1.out.grows hg).cell
          by_cases hs : y.s = o.s
          · have hs' : (y.s != o.s) = false := by simp [hs]
            rw [if_neg (by simpa using hs), List.append_nil] at HT
            clear hs
            go_wp2_with fail
            go_quiet (fail)
            have G5 : Grows WL (wr.drewN nq) := hg.drewN nq
            clear co c0 c1 c2
            have HOWn := Lib.hid (own_grows HOW.out ((Grows.refl wr).drewN nq))
            generalize wr.drewN nq = wn at *
            have LA := Lib.hid (ld_range (P := Try.prog) (w0 := wn) (range_rdk (RL4.out.grows G5) HYK.out HYL.out) (Nat.lt_of_lt_of_le hgw0 G5.size) Try.underlying23 rfl (by kernel_rfl))
            have LB := Lib.hid (ld_row (P := Try.prog) (w0 := wn) (O1.out.grows G5) Try.underlying23 rfl (by kernel_rfl))
            unfold Nm.cs at LA
            go_wp2_with fail
            refine wp_region_class (wn) (by kernel_rfl) (by kernel_rfl) (Grows.refl _) ?_
            repeat (first
              | go_big_quiet_skip
              | (go_big_quiet_want; first
                  | (refine quiet_load (b := g) (off := off + k * 3) rfl LA.out ?_; (simp only [Act.put, List.setIfInBounds_toArray, List.set_cons_zero, List.set_cons_succ]); go_big_quiet_on)
                  | (refine quiet_load (b := po) (off := 0) rfl LB.out ?_; (simp only [Act.put, List.setIfInBounds_toArray, List.set_cons_zero, List.set_cons_succ]); go_big_quiet_on)
                  | (go_big_quiet_op; first
                      | go_big_quiet_on
                      | (refine ⟨_, fun _ _ => rfl, ?_⟩; go_big_quiet_on)
                      | go_big_quiet_call ((intro hC; go_at_call 7; refine (OF.out _).mono ?_; rintro e w11 ⟨rfl, hg'⟩; exact ⟨rfl, hC.trans hg'⟩)))))
            refine wpQuiet_nil ?_
            intro w6 hC6
            have G6 := G5.trans hC6
            clear LA LB
            go_wp2_with fail
            go_roundg (gk - 1)
            case measure => omega
            case rel => exact ⟨k + 1, no, by omega, by go_num, by rw [HT.out]; exact HNO.out, by rw [HT.out]; exact own_grows HOWn.out hC6, G6⟩
          · have hs' : (y.s != o.s) = true := by simpa using hs
            rw [if_pos (by simpa using hs)] at HT
            clear hs
            go_wp2_with fail
            go_quiet (fail)
            have G5 : Grows WL (wr.drewN nq) := hg.drewN nq
            have c0' : (wr.drewN nq).cell? ⟨g, off + k * 3, none⟩ = some (.int .i64 y.s) := c0
            have c1' : (wr.drewN nq).cell? ⟨g, off + k * 3 + 1, none⟩ = some (.int .i64 y.i) := c1
            have c2' : (wr.drewN nq).cell? ⟨g, off + k * 3 + 2, none⟩ = some (.int .i64 y.t) := c2
            clear co c0 c1 c2
            have hOWn := own_grows HOW.out ((Grows.refl wr).drewN nq)
            have HOWn := Lib.hid hOWn
            clear hOWn
            generalize wr.drewN nq = wn at *
            go_wp2_with (at_builtin; refine wpList_append_rd _ rfl (.tmp 99) (.tmp 104) 24 rfl WL.heap.size 23 i0 _ 3 24 Try.underlying24 hi0 hz0 hz1 hz2 rfl (by decide) u13 no (nms (oth o.s (l.take k))) rfl (own_grows HOWn.out ((Grows.refl _).alloc _)) _ 1 _ y.cs rfl (rd_new wn #[.int .i64 y.s, .int .i64 y.i, .int .i64 y.t] 23 (0, 0)) ?q1 ?q2 ?q3 ?q4 ?q5 ?_)
            case q1 => rfl
            case q2 => intro u hu; exact nms_one [y] u (by simpa [nms] using hu)
            case q3 => unfold maxLen; omega
            case q4 => omega
            case q5 => exact (G5.alloc _).size
            intro v7 w7 hown7 hgr7 _
            have G7 : Grows WL w7 := (G5.alloc _).grown hgr7 (by intro k hk; exact (HOWn.out.lt k hk).1)
            have HO7 := Lib.hid hown7
            clear hown7 hgr7 c0' c1' c2'
            have LA := Lib.hid (ld_range (P := Try.prog) (w0 := w7) (range_rdk (RL4.out.grows G7) HYK.out HYL.out) (Nat.lt_of_lt_of_le hgw0 G7.size) Try.underlying23 rfl (by kernel_rfl))
            have LB := Lib.hid (ld_row (P := Try.prog) (w0 := w7) (O1.out.grows G7) Try.underlying23 rfl (by kernel_rfl))
            unfold Nm.cs at LA
            go_wp2_with fail
            refine wp_region_class (w7) (by kernel_rfl) (by kernel_rfl) (Grows.refl _) ?_
            repeat (first
              | go_big_quiet_skip
              | (go_big_quiet_want; first
                  | (refine quiet_load (b := g) (off := off + k * 3) rfl LA.out ?_; (simp only [Act.put, List.setIfInBounds_toArray, List.set_cons_zero, List.set_cons_succ]); go_big_quiet_on)
                  | (refine quiet_load (b := po) (off := 0) rfl LB.out ?_; (simp only [Act.put, List.setIfInBounds_toArray, List.set_cons_zero, List.set_cons_succ]); go_big_quiet_on)
                  | (go_big_quiet_op; first
                      | go_big_quiet_on
                      | (refine ⟨_, fun _ _ => rfl, ?_⟩; go_big_quiet_on)
                      | go_big_quiet_call ((intro hC; go_at_call 7; refine (OF.out _).mono ?_; rintro e w11 ⟨rfl, hg'⟩; exact ⟨rfl, hC.trans hg'⟩)))))
            refine wpQuiet_nil ?_
            intro w6 hC6
            have G6 := G7.trans hC6
            clear LA LB
            go_wp2_with fail
            go_roundg (gk - 1)
            case measure => omega
            case rel => exact ⟨k + 1, no + 1, by omega, by go_num, by rw [HT.out, List.length_append, HNO.out]; rfl, by rw [HT.out, nms_append]; exact own_grows HO7.out hC6, G6⟩
        · obtain rfl : k = n := by omega
          have hall := HO1.out k
          rw [List.take_of_length_le (by rw [HN.out]; exact Nat.le_refl _)] at hall HNO HOW
          obtain ⟨aa, ca, rfl, _, _, _⟩ := own_slice HOW.out
          have CW := waits_any o (oth o.s l) no HNO.out aa ca wr (Rd.own HOW.out) (by omega)
          rw [hall] at CW
          unfold Nm.v at CW
          have HCW := Lib.hid CW
          have co := (O1.out.grows hg).cell
          have RL5 := Lib.hid (RL4.out.grows hg)
          clear hall CW HO1 HO2 HOW HNO RL4 O1 hi0 hz0 hz1 hz2
          go_wp2_with fail
          refine HCW.out.mono ?_
          rintro e w8 ⟨rfl, h8⟩
          have RL8 := Lib.hid (RL5.out.grows h8)
          have GT8 := (GT4.trans hg).trans h8
          clear co HCW RL5
          go_wp2_with fail
          refine (sort_any l k HN.out ad cap _ RL8.out hcap (by omega)).mono ?_
          rintro e w9 ⟨r, ra, rc, rfl, hrr, hst, hmem, hrl, hrc, h9⟩
          obtain ⟨m, hm⟩ : ∃ m, r.length = m := ⟨_, rfl⟩
          rw [hm] at hrl hrc
          rw [hm]
          rw [HN.out] at hrl
          have HM := Lib.hid hm
          have RL9 := Lib.hid (RL8.out.grows h9)
          have GT9 := GT8.trans h9
          have RR9 := Lib.hid hrr
          have HST := Lib.hid hst
          have HME := Lib.hid hmem
          clear hrr hst hmem hm RL8 h8 h9
          go_wp2_with fail
          go_loopg [16] (m + 1) (fun gh i wr => ∃ (q : Nat), 1 ≤ q ∧ q + gh = m + 1 + 1 ∧ i = .int .i64 (q : Int) ∧ Grows w9 wr)
          case atStart => exact ⟨1, by omega, by omega, rfl, Grows.refl _⟩
          case round =>
            obtain ⟨q, hq1, hq2, rfl, hg9⟩ := hrel
            by_cases hlt : q < m
            · have hql : q < r.length := by rw [HM.out]; exact hlt
              have hpl : q - 1 < r.length := by omega
              obtain ⟨g, off, rfl, hgw, _⟩ := cells3 (RR9.out.grows hg9) hql
              have LA := Lib.hid (ld_range (P := Try.prog) (range_rdk (RR9.out.grows hg9) hpl rfl) hgw Try.underlying23 rfl (by kernel_rfl))
              have LB := Lib.hid (ld_range (P := Try.prog) (range_rdk (RR9.out.grows hg9) hql rfl) hgw Try.underlying23 rfl (by kernel_rfl))
              have hls : lessN r[q - 1] r[q] = true := by
                have := strict_step HST.out (q - 1) (by omega)
                simpa [show q - 1 + 1 = q by omega] using this
              have HLs := Lib.hid (fun W => rless_any r[q - 1] r[q] W)
              rw [hls] at HLs
              unfold Nm.v at HLs
              unfold Nm.cs at LA LB
              clear hls hgw
              generalize r[q - 1] = y at *
              generalize r[q] = z at *
              have hlt' : (q : Int) < (m : Int) := by omega
              have hq0 : (0 : Int) ≤ (q : Int) := by omega
              have hq4 : (0 : Int) ≤ (q : Int) - 1 := by omega
              have hq7 : (1 : Int) ≤ (q : Int) := by omega
              have hq6 : (q : Int) - 1 < (m : Int) := by omega
              have hw1 : IntKind.i64.wrap ((q : Int) - 1) = (q : Int) - 1 := IntWalk.i64_in _ (by omega)
              have hq5 : ((q : Int) - 1).toNat = q - 1 := by omega
              go_wp2_with fail
              refine wp_region_class wr (by kernel_rfl) (by kernel_rfl) (Grows.refl _) ?_
              repeat (first
                | go_big_quiet_skip
                | (go_big_quiet_want; first
                    | (refine quiet_load (b := g) (off := off + (q - 1) * 3) rfl LA.out ?_; (simp only [Act.put, List.setIfInBounds_toArray, List.set_cons_zero, List.set_cons_succ]); go_big_quiet_on)
                    | (refine quiet_load (b := g) (off := off + q * 3) rfl LB.out ?_; (simp only [Act.put, List.setIfInBounds_toArray, List.set_cons_zero, List.set_cons_succ]); go_big_quiet_on)
                    | (go_big_quiet_op; first
                        | go_big_quiet_on
                        | (refine ⟨_, fun _ _ => rfl, ?_⟩; go_big_quiet_on)
                        | go_big_quiet_call ((intro hC; go_at_call 10; refine (HLs.out _).mono ?_; rintro e w11 ⟨rfl, hg'⟩; exact ⟨rfl, hC.trans hg'⟩)))))
              refine wpQuiet_nil ?_
              intro w10 hC10
              have G10 := hg9.trans hC10
              clear LA LB HLs hw1 hq5
              go_wp2_with fail
              go_roundg (gk - 1)
              case measure => omega
              case rel => exact ⟨q + 1, by omega, by omega, by go_num, G10⟩
            · have hge : ¬ ((q : Int) < (m : Int)) := by omega
              have GT10 := GT9.trans hg9
              have RL10 := Lib.hid (RL9.out.grows hg9)
              have RR10 := Lib.hid (RR9.out.grows hg9)
              have HC1 : Hid (∀ y ∈ l, cnt y r = 1) := fun y hy => cnt_one HST.out ((HME.out y).2 hy)
              clear RL9 RR9 HST HME
              go_wp2_with fail
              generalize wr = wx at *
              clear hge hlt hq1 hq2
              go_loopg [17, 18, 19] k (fun gh i _ _ wr => ∃ (j : Nat), j + gh = k ∧ i = .int .i64 (j : Int) ∧ Grows wx wr)
              case atStart => exact ⟨0, by omega, rfl, Grows.refl _⟩
              case round =>
                obtain ⟨j, hj, rfl, hgx⟩ := hrel
                by_cases hjk : j < k
                · have hjl : j < l.length := by rw [HN.out]; exact hjk
                  obtain ⟨gl, ol, rfl, hgl0, _⟩ := cells3 RL10.out hjl
                  have HYJ := Lib.hid hjl
                  have hcn := HC1.out l[j] (List.getElem_mem hjl)
                  generalize hy : l[j] = y at *
                  have HYE := Lib.hid hy
                  have HCN := Lib.hid hcn
                  clear hy hcn
                  have hjk' : (j : Int) < (k : Int) := by omega
                  have hj0 : (0 : Int) ≤ (j : Int) := by omega
                  go_wp2_with fail
                  go_loopg [18, 19] m (fun gh cc i wi => ∃ (q : Nat), q + gh = m ∧ i = .int .i64 (q : Int) ∧ cc = .int .i64 ((cnt y (r.take q) : Nat) : Int) ∧ Grows wx wi)
                  case atStart => exact ⟨0, by omega, rfl, rfl, hgx⟩
                  case round =>
                    obtain ⟨q, hq, rfl, rfl, hgi⟩ := hrel
                    by_cases hqm : q < m
                    · have hql : q < r.length := by rw [HM.out]; exact hqm
                      obtain ⟨gr, orr, rfl, _, d0, d1, d2⟩ := cells3 (RR10.out.grows hgi) hql
                      have hrg := range_rdk (RL10.out.grows hgi) HYJ.out HYE.out
                      have c0 : wr.cell? ⟨gl, ol + j * 3, none⟩ = some (.int .i64 y.s) := hrg 0 _ rfl
                      have c1 : wr.cell? ⟨gl, ol + j * 3 + 1, none⟩ = some (.int .i64 y.i) := hrg 1 _ rfl
                      have c2 : wr.cell? ⟨gl, ol + j * 3 + 2, none⟩ = some (.int .i64 y.t) := hrg 2 _ rfl
                      clear hrg
                      have hct := cnt_take y r q hql
                      have hcl : cnt y (r.take q) ≤ 200 := by
                        refine Nat.le_trans (cnt_le _ _) ?_
                        rw [List.length_take]
                        omega
                      generalize cnt y (r.take q) = t at *
                      generalize r[q] = z at *
                      have hqm' : (q : Int) < (m : Int) := by omega
                      have hq0 : (0 : Int) ≤ (q : Int) := by omega
                      have he := eqn_any
                      by_cases hzy : z = y
                      · have hd : decide (z = y) = true := by simpa using hzy
                        rw [if_pos hzy] at hct
                        have HCT := Lib.hid hct
                        clear hct hzy
                        go_wp2_with fail
                        go_quiet (fail)
                        go_wp2_with fail
                        go_roundg (gk - 1)
                        case measure => omega
                        case rel => exact ⟨q + 1, by omega, by go_num, by rw [HCT.out]; go_num, hgi.drewN _⟩
                      · have hd : decide (z = y) = false := by simpa using hzy
                        rw [if_neg hzy] at hct
                        have HCT := Lib.hid hct
                        clear hct hzy
                        go_wp2_with fail
                        go_quiet (fail)
                        go_wp2_with fail
                        go_roundg (gk - 1)
                        case measure => omega
                        case rel => exact ⟨q + 1, by omega, by go_num, by rw [HCT.out]; go_num, hgi.drewN _⟩
                    · have hge : ¬ ((q : Int) < (m : Int)) := by omega
                      rw [List.take_of_length_le (by rw [HM.out]; omega), HCN.out]
                      go_wp2_with fail
                      go_roundg (k - j - 1)
                      case measure => omega
                      case rel => exact ⟨j + 1, by omega, by go_num, hgi⟩
                · have hge : ¬ ((j : Int) < (k : Int)) := by omega
                  have hle : (m : Int) ≤ (k : Int) := by omega
                  go_wp2_with fail
                  refine (wakes_any _).mono ?_
                  rintro e w12 ⟨rfl, h12⟩
                  go_wp2_with fail
                  go_ret
                  exact ⟨rfl, (GT10.trans hgx).trans h12⟩
end Go.Proofs.Ytilmihmjohjplaa
