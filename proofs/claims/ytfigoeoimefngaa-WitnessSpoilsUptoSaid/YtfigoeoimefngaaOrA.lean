/-
  record.Named; a track, one step of it.
-/
import Derived.Test.YtfigoeoimefngaaSnA
import Derived.Test.YtfigoeoimefngaaZa
import Derived.Deep.RegionHeld3
namespace Go.Proofs.Ytfigoeoimefngaa
open Go.RowKit Go.Maps

def wi (z : Int) : Bool := decide (1 ≤ z) && decide (z ≤ 1048576)
def namedB (a : Nm) : Bool := wi a.s && wi a.i && wi a.t
theorem within_any (z : Int) (w : World) : Calls Try.prog 51 #[.int .i64 z, .int .i64 1048576] w fun e w' => e = .returned (.bool (wi z)) ∧ w = w' := by
  by_cases h1 : 1 ≤ z
  · by_cases h2 : z ≤ 1048576
    · rw [show wi z = true by simp [wi, h1, h2]]
      go_enter Try.func51, Try.ntmps51
      go_wp2_with fail
      go_ret
      exact ⟨rfl, rfl⟩
    · rw [show wi z = false by simp [wi, h2]]
      go_enter Try.func51, Try.ntmps51
      go_wp2_with fail
      go_ret
      exact ⟨rfl, rfl⟩
  · rw [show wi z = false by simp [wi, h1]]
    go_enter Try.func51, Try.ntmps51
    go_wp2_with fail
    go_ret
    exact ⟨rfl, rfl⟩
theorem named_any (a : Nm) (w : World) : Calls Try.prog 45 #[a.v] w fun e w' => e = .returned (.bool (namedB a)) ∧ Grows w w' := by
  unfold Nm.v namedB
  have HW := Lib.hid (fun z W => within_any z W)
  cases h1 : wi a.s <;> cases h2 : wi a.i <;> cases h3 : wi a.t
  all_goals
    go_enter Try.func45, Try.ntmps45
    go_wp2_with (go_at_call 51; refine (HW.out _ _).mono ?_; rintro e w1 ⟨rfl, rfl⟩)
    go_ret
    exact ⟨rfl, (Grows.refl _).alloc _⟩

/-- What a history told of a name: begun, called, answered, decided; the place of its Commit. -/
structure Tk where
  b : Bool
  c : Bool
  a : Bool
  d : Bool
  p : Int
def Tk.cs (t : Tk) (v : Value) : Array Value := #[.bool t.b, .bool t.c, .bool t.a, .bool t.d, .int .i64 t.p, v]
def Tk.zero : Tk := ⟨false, false, false, false, 0⟩
def rwB (x : Sn) : Bool := x.k == 1 || x.k == 2
def okS (x : Sn) (t : Tk) : Bool :=
  if x.k = 0 then !t.b else t.b && (if rwB x then !t.c && decide (0 ≤ x.b) && decide (x.b < 32) else if x.k = 3 then !t.c else if x.k = 4 then !t.a && (t.c || decide (x.e ≠ 0)) else if x.k = 5 then !t.d && t.c else false)
def nxt (z : Int) (x : Sn) (t : Tk) : Tk :=
  if x.k = 0 then { t with b := true } else if x.k = 3 then { t with c := true, p := z } else if x.k = 4 then { t with a := true } else if x.k = 5 then { t with d := true } else t
def fl (z : Int) : Nat := FloatKind.f64.nearest z
def cx (b z : Int) : Value := .complex .f64 (fl b) (fl z)

end Go.Proofs.Ytfigoeoimefngaa
