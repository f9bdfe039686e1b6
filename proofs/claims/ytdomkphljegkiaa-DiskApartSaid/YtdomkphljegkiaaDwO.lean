/-
  Acts as arguments.
-/
import Derived.Test.YtdomkphljegkiaaDwA
import Derived.Test.YtdomkphljegkiaaRws
import Derived.Test.YtdomkphljegkiaaOpen3
namespace Go.Proofs.Ytdomkphljegkiaa
open Go.RowKit Go.ChangeShapes Go.WideShapes Go.ChangeAt Go.Deep

/-- An act. -/
structure Ac where
  do_ : Int
  n : Int
  a : Option Addr
  l : List Nat
  cap : Nat
  pa : Option Addr
  pl : Nat
  pc : Nat
def acc (x : Ac) : List Value := [.int .i64 x.do_, .int .i64 x.n, .slice x.a x.l.length x.cap, .slice x.pa x.pl x.pc]
theorem acc_len (x : Ac) : (acc x).length = 4 := rfl
def AcOk (w : World) (x : Ac) : Prop := Rd w x.a (bys x.l) ∧ (∀ y ∈ x.l, y < 256) ∧ x.l.length ≤ x.cap ∧ x.cap ≤ maxLen
theorem acts_of (w : World) : ∀ (xs : List (List Value)), (∀ c ∈ xs, ∃ x, c = acc x ∧ AcOk w x) → ∃ l : List Ac, l.length = xs.length ∧ xs.flatten = rowsOf acc l ∧ ∀ x ∈ l, AcOk w x
  | [], _ => ⟨[], rfl, rfl, fun x hx => by cases hx⟩
  | c :: xs, h => by
    obtain ⟨l, h1, h2, h3⟩ := acts_of w xs fun c hc => h c (by simp [hc])
    obtain ⟨x, rfl, h5⟩ := h c (by simp)
    refine ⟨x :: l, by simp [h1], by rw [List.flatten_cons, h2, rows_cons], ?_⟩
    intro y hy
    rcases List.mem_cons.1 hy with rfl | hy
    · exact h5
    · exact h3 y hy
section
variable {H : Type} {enc : TypeId × Value → H} {w : World} {base : Nat} {spare : Nat → Bool} {held : Bool}
theorem open_act {fuel : Nat} {c : List Value} {x : DataW H × List MemPlace} (h : DataW.trod enc Try.prog w base spare held fuel 31 c = some x) : ∃ y, c = acc y ∧ AcOk w y := by
  obtain ⟨xs, n, rfl, _, hl, hxl, hf⟩ := DataW.trod_struct Try.underlying31 h
  have hl4 : c.length = 4 := hl.trans (by kernel_rfl)
  match c, hl4 with
  | [c0, c1, c2, c3], _ =>
    have hx4 : xs.length = 4 := hxl
    have f0 : DataW.trod enc Try.prog w base spare held n 3 (([c0, c1, c2, c3].drop 0).take (Try.prog.cellsOf 3)) = xs[0]? := hf 0 _ rfl
    have f1 : DataW.trod enc Try.prog w base spare held n 3 (([c0, c1, c2, c3].drop 1).take (Try.prog.cellsOf 3)) = xs[1]? := hf 1 _ rfl
    have f2 : DataW.trod enc Try.prog w base spare held n 27 (([c0, c1, c2, c3].drop 2).take (Try.prog.cellsOf 27)) = xs[2]? := hf 2 _ rfl
    have f3 : DataW.trod enc Try.prog w base spare held n 29 (([c0, c1, c2, c3].drop 3).take (Try.prog.cellsOf 29)) = xs[3]? := hf 3 _ rfl
    rw [List.getElem?_eq_getElem (by omega)] at f0 f1 f2 f3
    have k0 : Try.prog.cellsOf 3 = 1 := by kernel_rfl
    have k1 : Try.prog.cellsOf 27 = 1 := by kernel_rfl
    have k2 : Try.prog.cellsOf 29 = 1 := by kernel_rfl
    rw [k0] at f0 f1
    rw [k1] at f2
    rw [k2] at f3
    obtain ⟨z0, e0, _⟩ := DataW.trod_int Try.underlying3 f0
    obtain ⟨z1, e1, _⟩ := DataW.trod_int Try.underlying3 f1
    obtain ⟨a, len, cap, e2, t2⟩ := trod_sl Try.underlying27 f2
    obtain ⟨pa, pl, pc, e3, t3⟩ := trod_sl Try.underlying29 f3
    injection e0 with e0
    injection e1 with e1
    subst e0 e1 e2 e3
    obtain ⟨l, hl, hr, hb, _, h1, h2⟩ := open_bytes Try.underlying27 Try.underlying5 (by kernel_rfl) t2
    refine ⟨⟨z0, z1, a, l, cap, pa, pl, pc⟩, ?_, hr, hb, by show l.length ≤ cap; omega, h2⟩
    simp [acc, hl]
theorem open_acts {a : Option Addr} {len cap : Nat} {d : DataW H} {p : List MemPlace} (h : DataW.Trod enc Try.prog w base spare held 22 (.slice a len cap) d p) :
    ∃ l : List Ac, l.length = len ∧ Rd w a (rowsOf acc l) ∧ (∀ x ∈ l, AcOk w x) ∧ (a = none → len = 0 ∧ cap = 0) ∧ len ≤ cap ∧ cap ≤ maxLen := by
  obtain ⟨xs, hl, hf, hr, h1, h2, h3⟩ := open_rows (G := fun c => ∃ y, c = acc y ∧ AcOk w y) Try.underlying22 (show Try.prog.cellsOf 31 = 4 by kernel_rfl) (by decide) (fun c ⟨y, e, _⟩ => by rw [e]; rfl) (fun _ _ _ h => open_act h) h
  obtain ⟨l, h4, h5, h6⟩ := acts_of w xs hf
  rw [h5] at hr
  exact ⟨l, h4.trans hl, hr, h6, h1, h2, h3⟩
end
end Go.Proofs.Ytdomkphljegkiaa
