/-
  No disk; HomeNil.
-/
import Derived.Test.YtmcofmidpedkiaaHmG
import Derived.Test.YtmcofmidpedkiaaFlat
import Derived.Test.YtmcofmidpedkiaaQuiet
namespace Go.Proofs.Ytmcofmidpedkiaa
open Go.RowKit Go.Maps

theorem ks13 : flatQ Try.prog 3 39 = some (List.replicate 13 (some .i64)) := by kernel_rfl
theorem kinds_ints : ∀ (l : List Int), OfKinds (List.replicate l.length (some .i64)) (ints l)
  | [] => trivial
  | _ :: xs => ⟨⟨_, rfl⟩, kinds_ints xs⟩
theorem ints_inj {a b : List Int} (h : ints a = ints b) : a = b := by
  unfold ints at h
  induction a generalizing b with
  | nil => cases b with
    | nil => rfl
    | cons y ys => cases h
  | cons x xs ih => cases b with
    | nil => cases h
    | cons y ys =>
      injection h with h1 h2
      injection h1 with h3 h4
      rw [h4, ih h2]
theorem eqs_any (W : World) (n t u i b o0 o1 o2 o3 o4 o5 o6 o7 n' t' u' i' b' p0 p1 p2 p3 p4 p5 p6 p7 : Int) : (Op.equalIn 10000 39 (.agg #[.int .i64 n, .int .i64 t, .int .i64 u, .int .i64 i, .int .i64 b, .int .i64 o0, .int .i64 o1, .int .i64 o2, .int .i64 o3, .int .i64 o4, .int .i64 o5, .int .i64 o6, .int .i64 o7]) (.agg #[.int .i64 n', .int .i64 t', .int .i64 u', .int .i64 i', .int .i64 b', .int .i64 p0, .int .i64 p1, .int .i64 p2, .int .i64 p3, .int .i64 p4, .int .i64 p5, .int .i64 p6, .int .i64 p7])).run Try.prog W = .ok (decide ([n, t, u, i, b, o0, o1, o2, o3, o4, o5, o6, o7] = [n', t', u', i', b', p0, p1, p2, p3, p4, p5, p6, p7])) W := by
  have hx := kinds_ints [n, t, u, i, b, o0, o1, o2, o3, o4, o5, o6, o7]
  have hy := kinds_ints [n', t', u', i', b', p0, p1, p2, p3, p4, p5, p6, p7]
  have := eq_flat_agg (P := Try.prog) W 3 39 _ ks13 (by omega) (fun _ => rfl) _ _ hx hy
  have he : cellsEq (ints [n, t, u, i, b, o0, o1, o2, o3, o4, o5, o6, o7]) (ints [n', t', u', i', b', p0, p1, p2, p3, p4, p5, p6, p7]) = decide ([n, t, u, i, b, o0, o1, o2, o3, o4, o5, o6, o7] = [n', t', u', i', b', p0, p1, p2, p3, p4, p5, p6, p7]) := by
    rw [Bool.eq_iff_iff, cellsEq_iff hx hy, decide_eq_true_eq]
    exact ⟨ints_inj, fun h => by rw [h]⟩
  rw [he] at this
  exact this

theorem hget_nil (n : Int) (w : World) : Calls Try.prog 12 #[.pointer none, .int .i64 n] w fun e w' => e = .returned (.tuple #[.slice none 0 0, .int .i64 1]) ∧ w = w' := by
  go_enter Try.func12, Try.ntmps12
  go_wp2_with fail
  go_ret2
  exact ⟨rfl, rfl⟩
theorem hput_nil (n : Int) (a : Option Addr) (l c : Nat) (w : World) : Calls Try.prog 8 #[.pointer none, .int .i64 n, .slice a l c] w fun e w' => e = .returned (.int .i64 1) ∧ w = w' := by
  go_enter Try.func8, Try.ntmps8
  go_wp2_with fail
  go_ret
  exact ⟨rfl, rfl⟩
theorem ps_nil (n t u i b o0 o1 o2 o3 o4 o5 o6 o7 : Int) (w : World) : Calls Try.prog 14 #[.pointer none, supv n t u i b o0 o1 o2 o3 o4 o5 o6 o7] w fun e w' => e = .returned (.int .i64 1) ∧ Grows w w' := by
  unfold supv
  go_enter Try.func14, Try.ntmps14
  go_wp2_with fail
  go_ret
  exact ⟨rfl, (Grows.refl _).alloc _⟩
set_option maxHeartbeats 1000000 in
theorem nil_walk (st : Int) (a : Option Addr) (l c : Nat) (n t u i b o0 o1 o2 o3 o4 o5 o6 o7 : Int) (w : World) : Calls Try.prog 4 #[.int .i64 st, .slice a l c, supv n t u i b o0 o1 o2 o3 o4 o5 o6 o7] w fun e w' => e = .returned (.bool true) ∧ Grows w w' := by
  have hz := zsup
  have he := fun W => (eqs_any W 0 0 0 0 0 0 0 0 0 0 0 0 0 0 0 0 0 0 0 0 0 0 0 0 0 0).trans (show _ = .ok true W from rfl)
  unfold supv at *
  have HA0 := Lib.hid (At.new w 39 #[.int .i64 n, .int .i64 t, .int .i64 u, .int .i64 i, .int .i64 b, .int .i64 o0, .int .i64 o1, .int .i64 o2, .int .i64 o3, .int .i64 o4, .int .i64 o5, .int .i64 o6, .int .i64 o7])
  go_enter Try.func4, Try.ntmps4
  go_wp2_with fail
  refine (hget_nil _ _).mono ?_
  rintro e w1 ⟨rfl, rfl⟩
  go_wp2_with fail
  refine (gs_nil _).mono ?_
  rintro e w2 ⟨rfl, hG2⟩
  unfold supv
  have HA2 := Lib.hid ((HA0.out.grows hG2).alloc (.cells #[.int .i64 0, .int .i64 0, .int .i64 0, .int .i64 0, .int .i64 0, .int .i64 0, .int .i64 0, .int .i64 0, .int .i64 0, .int .i64 0, .int .i64 0, .int .i64 0, .int .i64 0] 39))
  have HY2 := Lib.hid (At.new w2 39 #[.int .i64 0, .int .i64 0, .int .i64 0, .int .i64 0, .int .i64 0, .int .i64 0, .int .i64 0, .int .i64 0, .int .i64 0, .int .i64 0, .int .i64 0, .int .i64 0, .int .i64 0])
  have HG2 := Lib.hid ((((Grows.refl w).alloc _).trans hG2).alloc (.cells #[.int .i64 0, .int .i64 0, .int .i64 0, .int .i64 0, .int .i64 0, .int .i64 0, .int .i64 0, .int .i64 0, .int .i64 0, .int .i64 0, .int .i64 0, .int .i64 0, .int .i64 0] 39))
  clear HA0 hG2
  go_wp2_with fail
  refine (hput_nil _ _ _ _ _).mono ?_
  rintro e w3 ⟨rfl, rfl⟩
  have ca := HA2.out.cell
  go_wp2_with fail
  refine (ps_nil _ _ _ _ _ _ _ _ _ _ _ _ _ _).mono ?_
  rintro e w4 ⟨rfl, hG4⟩
  have cb := (HY2.out.grows hG4).cell
  have HG4 := Lib.hid (HG2.out.trans hG4)
  clear HA2 HY2 HG2 hG4 ca
  go_wp2_with fail
  refine (wakes_any _).mono ?_
  rintro e w5 ⟨rfl, hG5⟩
  go_wp2_with fail
  go_ret
  exact ⟨rfl, HG4.out.trans hG5⟩
end Go.Proofs.Ytmcofmidpedkiaa
