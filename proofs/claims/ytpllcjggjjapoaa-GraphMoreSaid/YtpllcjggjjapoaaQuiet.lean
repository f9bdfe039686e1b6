/-
  A region that draws its order, whose operations read and whose calls only make memory: one walk in the text's order, in the class of worlds that have grown out of one.
-/
import Derived.Test.YtpllcjggjjapoaaMid
import Derived.Deep.QuietTactic
import Derived.BigQuiet
namespace Go.Proofs.Ytpllcjggjjapoaa
open Go.RowKit

theorem wp_region_class {P : Program} {id : Nat} {Q : Exit → Act → World → Prop} {a : Act} {w : World} {l : List Oper} (w0 : World) (hm : P.follows .mixedOrders = true) (hB : Region.lexB .any l.toArray = true) (hC : Grows w0 w)
    (h : wpQuiet P l.toArray (Grows w0) (fun a' => ∀ w', Grows w0 w' → Q .normal a' w') l a) : (Code.region id l.toArray true).wp P Q a w :=
  wp_region_quiet (C := Grows w0) hm hB hC.drew (by simpa using h)

theorem quiet_load {P : Program} {C : World → Prop} {a : Act} {K : Act → Prop} {dst : Option Tmp} {ty t' : TypeId} {x : Operand} {pos : String} {after : Array Edge} {gd : Option (Nat × Bool)} {b off : Nat} {v : Value}
    (hx : a.eval x = .pointer (some ⟨b, off, none⟩)) (hv : ∀ w, C w → (loadVar ty ⟨b, off, none⟩).run P w = .ok v w) (hk : K (a.put dst v)) : Oper.quiet P ⟨dst, .load ty x, t', pos, after, gd⟩ a C K :=
  ⟨v, fun w hw => by
    unfold Oper.quietAt execOp
    simp only [hx, Instr.loadAt, Instr.sureAddr, Sem.run_bind, Sem.run_pure, Result.andThen_ok, hv w hw, Oper.quietUpon, and_self], hk⟩

theorem ld_row {P : Program} {w0 : World} {g : Nat} {t ty : TypeId} {cs : Array Value} {d : TypeDesc} (h : At w0 g t cs) (hu : P.underlying ty = some d) (hd : (match d with | .struct _ | .array _ _ => true | _ => false) = true) (hi : (P.info? ty).map (·.size) = some cs.size) :
    ∀ w, Grows w0 w → (loadVar ty ⟨g, 0, none⟩).run P w = .ok (.agg cs) w := fun w hw => run_loadVar_row w g t ty cs (0, 0) d (h.grows hw) hu hd hi
theorem ld_mid {P : Program} {w0 : World} {g o : Nat} {t ty : TypeId} {cs : List Value} {d : TypeDesc} {n : Nat} (h : At w0 g t cs.toArray) (hu : P.underlying ty = some d) (hd : d.isRow = true) (hn : o + n ≤ cs.length) (hi : (P.info? ty).map (·.size) = some n) :
    ∀ w, Grows w0 w → (loadVar ty ⟨g, o, none⟩).run P w = .ok (.agg ((cs.drop o).take n).toArray) w := fun w hw =>
  run_loadVar_mid w g o ty _ d ((h.grows hw).range o n) hu hd (by rw [hi, List.length_take, List.length_drop, Nat.min_eq_left (by omega)])
theorem ld_range {P : Program} {w0 : World} {g o : Nat} {ty : TypeId} {cs : List Value} {d : TypeDesc} (h : w0.rangeAt g o cs) (hg : g < w0.heap.size) (hu : P.underlying ty = some d) (hd : d.isRow = true) (hi : (P.info? ty).map (·.size) = some cs.length) :
    ∀ w, Grows w0 w → (loadVar ty ⟨g, o, none⟩).run P w = .ok (.agg cs.toArray) w := fun w hw =>
  run_loadVar_mid w g o ty cs d (fun j v hv => (hw.cell g _ hg).trans (h j v hv)) hu hd hi
theorem ld_int {P : Program} {w0 : World} {g o : Nat} {ty : TypeId} {k : IntKind} {n : Int} (hu : P.underlying ty = some (.int k)) (hc : w0.cell? ⟨g, o, none⟩ = some (.int k n)) : ∀ w, Grows w0 w → (loadVar ty ⟨g, o, none⟩).run P w = .ok (.int k n) w := fun w hw => by
  have hg := World.block_lt_of_cell? w0 _ hc
  have hc' : w.cell? ⟨g, o, none⟩ = some (.int k n) := (hw.cell g o hg).trans hc
  simp [loadVar, isAgg, run_underlying hu, go_sem, hc']
end Go.Proofs.Ytpllcjggjjapoaa
