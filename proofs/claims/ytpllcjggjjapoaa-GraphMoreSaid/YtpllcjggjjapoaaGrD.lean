/-
  set.add.
-/
import Derived.Test.YtpllcjggjjapoaaGrC
namespace Go.Proofs.Ytpllcjggjjapoaa
open Go.RowKit Go.Maps Go.ChangeMaps Go.MapKept Go.WideElems

/-- A set of names. -/
structure Se (w : World) (ms : Nat) (S : List Nm) : Prop where
  map : Mp Try.prog 24 w ms (fT S fun _ => .agg #[])
  ok : ∀ n ∈ S, n.ok
theorem Se.grows {w w' : World} {ms : Nat} {S : List Nm} (h : Se w ms S) (hg : Grows w w') : Se w' ms S := ⟨h.map.grows hg, h.ok⟩
theorem Se.same {w w' : World} {ms : Nat} {S : List Nm} (h : Se w ms S) (hb : w'.heap[ms]? = w.heap[ms]?) : Se w' ms S := ⟨h.map.same hb, h.ok⟩
theorem zunit (W : World) : (zeroValue 46).run Try.prog W = .ok (.agg #[]) W := by kernel_rfl
theorem Se.made (w : World) : Se (w.alloc (.map #[] 0)) w.heap.size [] := ⟨Mp.made w Try.prog _, fun n hn => by cases hn⟩
theorem mapTurned_turns {w w' : World} {m : Nat} (h : w.mapTurned w' m) : Turns (fun i => i = m) w w' (fun i => i = m) := by
  have g := h.grown
  exact ⟨g.os, g.tape, g.output, g.size, fun i hi hn => g.block i hi (fun e => hn (by injection e)), fun i hi => .inl hi⟩
def AddP (x : Nm) (S : List Nm) (ms : Nat) (w : World) (e : Ending) (w' : World) : Prop :=
  Turns (fun i => i = ms) w w' (fun i => i = ms) ∧ ((x ∈ S ∧ e = .returned (.bool false) ∧ Se w' ms S) ∨ (x ∉ S ∧ e = .returned (.bool true) ∧ Se w' ms (x :: S)))
set_option maxHeartbeats 2000000 in
theorem add_any (x : Nm) (hx : x.ok) (S : List Nm) (hS : S.length ≤ 1000) (ms : Nat) (w : World) (h : Se w ms S) :
    Calls Try.prog 15 #[.map (some ms), x.v] w (AddP x S ms w) := by
  have HW : Hid (Se (w.alloc (.cells #[.int .i64 x.s, .int .i64 x.i, .int .i64 x.t] 24)) ms S) := Lib.hid (h.grows ((Grows.refl _).alloc _))
  have hlk := HW.out.map.look_ok nameLaw Try.underlying38 (zunit _) (name_key x hx)
  rw [fT_at HW.out.ok _ hx] at hlk
  have HT := Lib.hid ((Turns.refl (fun i => i = ms) w).alloc (.cells #[.int .i64 x.s, .int .i64 x.i, .int .i64 x.t] 24))
  have HX := Lib.hid hx
  have HS := Lib.hid hS
  have hz := zunit
  clear h hx hS
  by_cases hm : x ∈ S
  · rw [if_pos hm] at hlk
    have HM := Lib.hid hm
    have hlk' : (Instr.lookup 38 (.map (some ms)) x.v true).run Try.prog (w.alloc (.cells #[.int .i64 x.s, .int .i64 x.i, .int .i64 x.t] 24)) = .ok (.tuple #[.agg #[], .bool true]) (w.alloc (.cells #[.int .i64 x.s, .int .i64 x.i, .int .i64 x.t] 24)) := hlk
    clear hlk hm
    unfold Nm.v at hlk' ⊢
    go_enter Try.func15, Try.ntmps15
    go_wp2_with fail
    go_ret
    exact ⟨HT.out.alloc _, .inl ⟨HM.out, rfl, HW.out.grows ((Grows.refl _).alloc _)⟩⟩
  · rw [if_neg hm] at hlk
    have HM := Lib.hid hm
    have hlk' : (Instr.lookup 38 (.map (some ms)) x.v true).run Try.prog (w.alloc (.cells #[.int .i64 x.s, .int .i64 x.i, .int .i64 x.t] 24)) = .ok (.tuple #[.agg #[], .bool false]) (w.alloc (.cells #[.int .i64 x.s, .int .i64 x.i, .int .i64 x.t] 24)) := hlk
    clear hlk hm
    obtain ⟨w2, hrun, hmp, ht⟩ := (HW.out.grows ((Grows.refl _).alloc (.cells #[] 46))).map.store nameLaw Try.underlying38 (S.map Nm.lit) fT_mem (by have := HS.out; simp [maxLen]; omega) (name_key x HX.out) (v := .agg #[])
    have HMP : Hid (Se w2 ms (x :: S)) := Lib.hid ⟨by rwa [fT_upd (fun _ => .agg #[]) (.agg #[]) (fun _ => .agg #[]) rfl (fun _ _ => rfl)] at hmp, fun n hn => by
      rcases List.mem_cons.1 hn with rfl | hn
      · exact HX.out
      · exact HW.out.ok n hn⟩
    have HT2 := Lib.hid ((HT.out.alloc (.cells #[] 46)).trans (mapTurned_turns ht))
    clear hmp ht
    unfold Nm.v at hlk' hrun ⊢
    go_enter Try.func15, Try.ntmps15
    go_wp2_with fail
    go_ret
    exact ⟨HT2.out, .inr ⟨HM.out, rfl, HMP.out⟩⟩
end Go.Proofs.Ytpllcjggjjapoaa
