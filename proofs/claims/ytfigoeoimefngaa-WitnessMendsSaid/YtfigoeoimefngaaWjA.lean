/-
  The references' Named, first.
-/
import Derived.Test.YtfigoeoimefngaaZb
import Derived.Test.YtfigoeoimefngaaZa
import Derived.Deep.QuietTactic
import Derived.BigQuiet
namespace Go.Proofs.Ytfigoeoimefngaa
open Go.RowKit Go.Maps Go.Shelf

set_option maxHeartbeats 4000000 in
theorem named7_any (a : Nm) (w : World) : Calls Try.prog 29 #[a.v] w fun e w' => e = .returned (.bool (namedB a)) ∧ Grows w w' := by
  unfold Nm.v
  by_cases h1 : 1 ≤ a.s
  case neg =>
    rw [show namedB a = false by simp [namedB, wi, h1]]
    go_enter Try.func29, Try.ntmps29
    go_wp2_with fail
    go_ret
    exact ⟨rfl, (Grows.refl _).alloc _⟩
  by_cases h2 : a.s ≤ 1048576
  case neg =>
    rw [show namedB a = false by simp [namedB, wi, h2]]
    go_enter Try.func29, Try.ntmps29
    go_wp2_with fail
    go_ret
    exact ⟨rfl, (Grows.refl _).alloc _⟩
  by_cases h3 : 1 ≤ a.i
  case neg =>
    rw [show namedB a = false by simp [namedB, wi, h3]]
    go_enter Try.func29, Try.ntmps29
    go_wp2_with fail
    go_ret
    exact ⟨rfl, (Grows.refl _).alloc _⟩
  by_cases h4 : a.i ≤ 1048576
  case neg =>
    rw [show namedB a = false by simp [namedB, wi, h4]]
    go_enter Try.func29, Try.ntmps29
    go_wp2_with fail
    go_ret
    exact ⟨rfl, (Grows.refl _).alloc _⟩
  by_cases h5 : 1 ≤ a.t
  case neg =>
    rw [show namedB a = false by simp [namedB, wi, h5]]
    go_enter Try.func29, Try.ntmps29
    go_wp2_with fail
    go_ret
    exact ⟨rfl, (Grows.refl _).alloc _⟩
  by_cases h6 : a.t ≤ 1048576
  case neg =>
    rw [show namedB a = false by simp [namedB, wi, h6]]
    go_enter Try.func29, Try.ntmps29
    go_wp2_with fail
    go_ret
    exact ⟨rfl, (Grows.refl _).alloc _⟩
  rw [show namedB a = true by simp [namedB, wi, h1, h2, h3, h4, h5, h6]]
  go_enter Try.func29, Try.ntmps29
  go_wp2_with fail
  go_ret
  exact ⟨rfl, (Grows.refl _).alloc _⟩
theorem named32_any (a : Nm) (w : World) : Calls Try.prog 13 #[a.v] w fun e w' => e = .returned (.bool (namedB a)) ∧ Grows w w' := by
  unfold Nm.v
  have HW := Lib.hid (fun W => named7_any a W)
  unfold Nm.v at HW
  go_enter Try.func13, Try.ntmps13
  go_wp2_with fail
  refine (HW.out _).mono ?_
  rintro e w1 ⟨rfl, hg⟩
  go_wp2_with fail
  go_ret
  exact ⟨rfl, ((Grows.refl _).alloc _).trans hg⟩

def fstB (k : Int) (m : Nm) (x : Sn) : Bool := decide (x.k = k) && decide (x.n = m)
def fstI (k : Int) (m : Nm) (L : List Sn) : Int := if L.any (fstB k m) = true then ((L.findIdx (fstB k m) : Nat) : Int) else -1
theorem fst_hit {k : Int} {m : Nm} {L : List Sn} {i : Nat} {x : Sn} (h : L[i]? = some x) (h0 : (L.take i).any (fstB k m) = false) (hx : fstB k m x = true) : fstI k m L = (i : Int) := by
  obtain ⟨hi, he⟩ := List.getElem?_eq_some_iff.1 h
  unfold fstI
  rw [if_pos (List.any_eq_true.2 ⟨x, List.mem_of_getElem? h, hx⟩)]
  congr 1
  rw [List.findIdx_eq hi]
  refine ⟨by rw [he]; exact hx, fun j hj => ?_⟩
  have := (List.any_eq_false.1 h0) (L[j]'(by omega)) (List.mem_take_iff_getElem.2 ⟨j, by omega, rfl⟩)
  simpa using this
theorem fst_none {k : Int} {m : Nm} {L : List Sn} (h : L.any (fstB k m) = false) : fstI k m L = -1 := by
  unfold fstI
  rw [h]; rfl
theorem fst_take {α : Type} {p : α → Bool} {L : List α} {k : Nat} {x : α} (h : L[k]? = some x) (h0 : (L.take k).any p = false) (hx : p x = false) : (L.take (k + 1)).any p = false := by
  rw [List.take_add_one, h, List.any_append, h0]; simp [hx]
set_option maxRecDepth 100000 in
set_option maxHeartbeats 4000000 in
theorem first_any (L : List Sn) (n : Nat) (hn : L.length = n) (hL : n ≤ 1048576) (a : Option Addr) (cap : Nat) (q : Int) (m : Nm) (w : World) (hr : Rd w a (rowsOf Sn.cs L)) :
    Calls Try.prog 32 #[.slice a n cap, .int .i8 q, m.v] w fun e w' => e = .returned (.int .i64 (fstI q m L)) ∧ Grows w w' := by
  have HR := Lib.hid hr
  have HN := Lib.hid hn
  have HNL := Lib.hid hL
  have HMN := Lib.hid (At.new w 29 #[.int .i64 m.s, .int .i64 m.i, .int .i64 m.t])
  clear hr hn hL
  unfold Nm.v
  go_enter Try.func32, Try.ntmps32
  go_wp2_with fail
  go_loopg [7] n (fun gk v7 wr => ∃ k : Nat, gk + k = n ∧ v7 = .int .i64 (k : Int) ∧ Grows w wr ∧ (L.take k).any (fstB q m) = false ∧ At wr w.heap.size 29 #[.int .i64 m.s, .int .i64 m.i, .int .i64 m.t])
  case atStart => exact ⟨0, by omega, rfl, (Grows.refl _).alloc _, rfl, HMN.out⟩
  case round =>
    obtain ⟨k, hk, rfl, hg, h0, hmm⟩ := hrel
    have HGW := Lib.hid hg
    have H0 := Lib.hid h0
    have HMX := Lib.hid hmm
    clear hg h0 hmm
    by_cases hlt : k < n
    · have hkl : k < L.length := by rw [HN.out]; exact hlt
      obtain ⟨g, off, rfl, hgw, hc⟩ := cells14 (HR.out.grows HGW.out) hkl
      have HXK : Hid (L[k]? = some L[k]) := Lib.hid (List.getElem?_eq_getElem hkl)
      generalize L[k] = x at *
      obtain ⟨c0, c1, c2, c3, c4, c5, c6, c7, c8, c9, c10, c11, c12, c13⟩ := cells14_at hc
      have cm := HMX.out.cell
      have hen : ∀ W, (Op.equalIn 10000 29 (.agg #[.int .i64 x.n.s, .int .i64 x.n.i, .int .i64 x.n.t]) (.agg #[.int .i64 m.s, .int .i64 m.i, .int .i64 m.t])).run Try.prog W = .ok (decide (x.n = m)) W := fun W => eqn_any W x.n m
      have hlt' : (k : Int) < (n : Int) := by omega
      have hk0 : (0 : Int) ≤ (k : Int) := by omega
      have hwr : IntKind.i64.wrap ((k : Int) + 1) = (k : Int) + 1 := IntWalk.i64_in _ (by have := HNL.out; omega)
      clear hc hkl
      by_cases h1 : x.k = q
      · have e1 : (x.k == q) = true := by simp [h1]
        by_cases h5 : x.n = m
        · rw [decide_eq_true h5] at hen
          have HX : Hid (fstB q m x = true) := Lib.hid (by simp [fstB, h1, h5])
          clear h1 h5
          go_wp2_with fail
          go_quiet (fail)
          go_wp2_with fail
          go_ret
          exact ⟨by rw [fst_hit HXK.out H0.out HX.out]; rfl, HGW.out.drewN _⟩
        · rw [decide_eq_false h5] at hen
          have HX : Hid (fstB q m x = false) := Lib.hid (by simp [fstB, h5])
          clear h1 h5
          go_wp2_with fail
          go_quiet (fail)
          go_wp2_with fail
          go_roundg (gk - 1)
          case measure => omega
          exact ⟨k + 1, by omega, rfl, HGW.out.drewN _, fst_take HXK.out H0.out HX.out, HMX.out.grows ((Grows.refl _).drewN _)⟩
      · have e1 : (x.k == q) = false := by simp [h1]
        have HX : Hid (fstB q m x = false) := Lib.hid (by simp [fstB, h1])
        clear h1
        go_wp2_with fail
        go_quiet (fail)
        go_wp2_with fail
        go_roundg (gk - 1)
        case measure => omega
        exact ⟨k + 1, by omega, rfl, HGW.out.drewN _, fst_take HXK.out H0.out HX.out, HMX.out.grows ((Grows.refl _).drewN _)⟩
    · have : k = n := by omega
      subst this
      have HF : Hid (L.any (fstB q m) = false) := Lib.hid (by have := H0.out; rwa [← HN.out, List.take_length] at this)
      clear hlt
      go_wp2_with fail
      go_ret
      exact ⟨by rw [fst_none HF.out]; rfl, HGW.out⟩
end Go.Proofs.Ytfigoeoimefngaa
