/-
  The law's own history of two names, and its wakes: plain, and the list.
-/
import Derived.Test.YtfigoeoimefngaaWiL
namespace Go.Proofs.Ytfigoeoimefngaa
open Go.RowKit Go.Maps Go.Shelf

abbrev sv (k n x : Int) : Sn := ⟨k, ⟨n, 1, 1⟩, 0, x, 0, 0, 0, 0, 0, 0, 0, 0⟩
def oneL (v : Int) : List Sn := [sv 0 1 0, sv 2 1 1, sv 3 1 0, sv 5 1 0, sv 0 2 0, sv 1 2 v, sv 3 2 0, sv 5 2 0]
theorem oneL_len (v : Int) : (oneL v).length = 8 := rfl
theorem may_one0 : mayB (oneL 0) = true := by decide +kernel
theorem may_one1 : mayB (oneL 1) = true := by decide +kernel
theorem may_one7 : mayB (oneL 7) = true := by decide +kernel
theorem wr_one0 : wrongF (oneL 0) = [⟨5, ⟨2, 1, 1⟩, 0, [1, 0, 0, 0, 0, 0, 0, 0], [0, 0, 0, 0, 0, 0, 0, 0], ⟨1, 1, 1⟩, ⟨0, 0, 0⟩, 0⟩] := by decide +kernel
theorem wr_one1 : wrongF (oneL 1) = [] := by decide +kernel
theorem wr_one7 : wrongF (oneL 7) = [⟨5, ⟨2, 1, 1⟩, 0, [1, 0, 0, 0, 0, 0, 0, 0], [7, 0, 0, 0, 0, 0, 0, 0], ⟨1, 1, 1⟩, ⟨0, 0, 0⟩, 4⟩] := by decide +kernel
set_option maxRecDepth 100000 in
set_option maxHeartbeats 4000000 in
theorem one_any (v : Int) (w : World) : Calls Try.prog 25 #[.int .u8 v] w fun e w' => ∃ a, e = .returned (.slice a 8 8) ∧ Rd w' a (rowsOf Sn.cs (oneL v)) ∧ Grows w w' := by
  go_enter Try.func25, Try.ntmps25
  go_wp2_with fail
  go_ret
  have h := rd_new ((w.alloc (.cells #[.int .i64 1, .int .i64 1, .int .i64 1] 29)).alloc (.cells #[.int .i64 2, .int .i64 1, .int .i64 1] 29)) (rowsOf Sn.cs (oneL v)).toArray 36 (0, 0)
  rw [World.size_alloc, World.size_alloc] at h
  exact ⟨_, rfl, h, (((Grows.refl _).alloc _).alloc _).alloc _⟩
theorem ok_one (v : Int) (h0 : 0 ≤ v) (h1 : v < 256) : ∀ x ∈ oneL v, x.n.ok ∧ x.wk.ok := by
  intro x hx
  simp only [oneL, List.mem_cons, List.not_mem_nil, or_false] at hx
  rcases hx with rfl | rfl | rfl | rfl | rfl | rfl | rfl | rfl <;> (unfold Nm.ok Sn.wk Wk.ok inI inB; simp; try omega)
/-- witness.Wrong of one(v). -/
theorem wrong_one (v : Int) (h0 : 0 ≤ v) (h1 : v < 256) (hm : mayB (oneL v) = true) (a : Option Addr) (w : World) (hr : Rd w a (rowsOf Sn.cs (oneL v))) :
    Calls Try.prog 10 #[.slice a 8 8] w fun e w' => Grows w w' ∧ ∃ b c, e = .returned (.tuple #[.slice b (wrongF (oneL v)).length c, .int .i64 0]) ∧ Rd w' b (rowsOf Ft.cs (wrongF (oneL v))) := by
  refine (wrong_any (oneL v) 8 rfl (by omega) (ok_one v h0 h1) a 8 w hr).mono ?_
  rintro e w' ⟨hg, ⟨h, _⟩ | ⟨_, u, rfl, ho⟩⟩
  · rw [hm] at h; cases h
  · obtain ⟨b, c, rfl, _, _, _⟩ := own_slice ho
    exact ⟨hg, b, c, rfl, Rd.own ho⟩
end Go.Proofs.Ytfigoeoimefngaa
