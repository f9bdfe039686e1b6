/-
  order.decided: the comparison that is handed to the sort.
-/
import Derived.Test.YtcailhkaeledbaaOrF
import Derived.BigQuiet
namespace Go.Proofs.Ytcailhkaeledbaa
open Go.RowKit Go.Maps Go.Shelf Go.Lib Go.Sort

theorem field_p (W : World) (b c a d : Bool) (p : Int) (ax : Option Addr) (nx px : Nat) : (Instr.field 54 (.agg #[.bool b, .bool c, .bool a, .bool d, .int .i64 p, .slice ax nx px]) 4).run Try.prog W = .ok (.int .i64 p) W := by kernel_rfl
set_option maxHeartbeats 2000000 in
theorem cmpNm_any (x y : Nm) (t u : Tk) (ax ay : Option Addr) (nx px ny py m bx : Nat) (W : World) (hbx : W.cell? ⟨bx, 0, none⟩ = some (.map (some m)))
    (hx : ∀ W', Grows W W' → (Instr.lookup 44 (.map (some m)) x.v false).run Try.prog W' = .ok (.agg (t.cs (.slice ax nx px))) W')
    (hy : ∀ W', Grows W W' → (Instr.lookup 44 (.map (some m)) y.v false).run Try.prog W' = .ok (.agg (u.cs (.slice ay ny py))) W') :
    Calls Try.prog 21 #[x.v, y.v, .pointer (some ⟨bx, 0, none⟩)] W fun e w' => e = .returned (.int .i64 (cmpI t.p u.p)) ∧ ∃ q os', w' = grow (W.drewN q) os' := by
  have hC : ∀ W', Calls Try.prog 22 #[.int .i64 t.p, .int .i64 u.p] W' fun e w' => e = .returned (.int .i64 (cmpI t.p u.p)) ∧ w' = W' := fun W' => (compare_any t.p u.p W').mono fun _ _ h => ⟨h.1, h.2.symm⟩
  have hl := World.block_lt_of_cell? W _ hbx
  have hfp := field_p
  generalize cmpI t.p u.p = r at *
  obtain ⟨W2, hW2⟩ : ∃ W2, W2 = (W.alloc (.cells #[.int .i64 x.s, .int .i64 x.i, .int .i64 x.t] 31)).alloc (.cells #[.int .i64 y.s, .int .i64 y.i, .int .i64 y.t] 31) := ⟨_, rfl⟩
  have hG : Grows W W2 := by rw [hW2]; exact ((Grows.refl _).alloc _).alloc _
  have hxk := fun k => hx (W2.drewN k) (hG.drewN k)
  have hyk := fun k => hy (W2.drewN k) (hG.drewN k)
  have hc2 : W2.cell? ⟨bx, 0, none⟩ = some (.map (some m)) := (hG.cell _ _ hl).trans hbx
  have hA : At W2 W.heap.size 31 #[.int .i64 x.s, .int .i64 x.i, .int .i64 x.t] := by rw [hW2]; exact (At.new W _ _).alloc _
  have hB : At W2 (W.heap.size + 1) 31 #[.int .i64 y.s, .int .i64 y.i, .int .i64 y.t] := by
    have := At.new (W.alloc (.cells #[.int .i64 x.s, .int .i64 x.i, .int .i64 x.t] 31)) 31 #[.int .i64 y.s, .int .i64 y.i, .int .i64 y.t]
    rw [World.size_alloc] at this
    rw [hW2]; exact this
  have cA := hA.cell
  have cB := hB.cell
  unfold Nm.v Tk.cs at *
  clear hx hy hbx hl hA hB hG
  go_enter Try.func21, Try.ntmps21
  go_wp2_with fail
  rw [← hW2]
  have HW2 := Lib.hid hW2
  clear hW2
  go_quiet (first | (go_at_call 22; refine Calls.quiet_of_same (hC _)))
  go_wp2_with fail
  go_ret
  refine ⟨rfl, nq, #[.cells #[.int .i64 x.s, .int .i64 x.i, .int .i64 x.t] 31, .cells #[.int .i64 y.s, .int .i64 y.i, .int .i64 y.t] 31], ?_⟩
  rw [HW2.out, alloc_eq_grow, alloc_eq_grow, grow_grow]
  rfl
end Go.Proofs.Ytcailhkaeledbaa
