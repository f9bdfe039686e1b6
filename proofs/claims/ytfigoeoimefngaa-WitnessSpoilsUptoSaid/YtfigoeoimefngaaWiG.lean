/-
  witness.view.reads: what the iterator asks of its consumer.
-/
import Derived.Test.YtfigoeoimefngaaWiF
import Derived.Test.YtfigoeoimefngaaZb
import Derived.Deep.RegionLaw
namespace Go.Proofs.Ytfigoeoimefngaa
open Go.RowKit Go.Maps Go.Shelf

/-- A store of a row of cells into the midst of a block, as one step of a region that draws its order. -/
theorem step_store_mid {P : Program} {w : World} {ops : Array Oper} {o : Oper} {a : Act} {K : Act → World → Prop} {Q : Exit → Act → World → Prop} {E : Prop} (hgd : o.guard = none) (ty : TypeId) (x y : Operand) (ho : o.op = .store ty x y)
    (b off : Nat) (cells : Array Value) (hx : a.eval x = .pointer (some ⟨b, off, none⟩)) (hy : a.eval y = .agg cells) (ht : w.there b off cells.size) (hi : (P.info? ty).map (·.size) = some cells.size) (h1 : cells.all (·.oneCell') = true)
    (hK : K (a.put o.dst undef) (w.setCells b off cells.toList)) : if Region.wanted o (yielded ops a.tmps) = true then Oper.wp P o a w K Q else E := by
  have hw : Region.wanted o (yielded ops a.tmps) = true := by simp [Region.wanted, hgd]
  rw [if_pos hw]
  exact wp_store_mid ty x y ho b off cells hx hy ht hi h1 hK
theorem Turns.sets {O O1 : Nat → Prop} {w : World} {g : Nat} (hg : O g ∨ w.heap.size ≤ g) : ∀ (vs : List Value) {w1 : World} (o : Nat), Turns O w w1 O1 → Turns O w (w1.setCells g o vs) O1
  | [], _, _, h => h
  | v :: vs, w1, o, h => by
    rw [World.setCells]
    exact Turns.sets hg vs (o + 1) (h.set hg o v)
/-- What lay there at the beginning and what is the consumer's are as they were. -/
structure Kp (b1 : Nat) (O : Nat → Prop) (w w' : World) : Prop where
  os : w'.os = w.os
  tape : w'.tape = w.tape
  output : w'.output = w.output
  size : w.heap.size ≤ w'.heap.size
  block : ∀ i, i < w.heap.size → (i < b1 ∨ O i) → w'.heap[i]? = w.heap[i]?
section
variable {b1 : Nat} {O : Nat → Prop} {w w1 w2 : World}
theorem Kp.refl (b1 : Nat) (O : Nat → Prop) (w : World) : Kp b1 O w w := ⟨rfl, rfl, rfl, Nat.le_refl _, fun _ _ _ => rfl⟩
theorem Kp.grows (h : Grows w w1) : Kp b1 O w w1 := ⟨h.os, h.tape, h.output, h.size, fun i hi _ => h.block i hi⟩
theorem Kp.trans (h : Kp b1 O w w1) (k : Kp b1 O w1 w2) : Kp b1 O w w2 :=
  ⟨k.os.trans h.os, k.tape.trans h.tape, k.output.trans h.output, Nat.le_trans h.size k.size, fun i hi ho => (k.block i (Nat.lt_of_lt_of_le hi h.size) ho).trans (h.block i hi ho)⟩
theorem Kp.sets {g : Nat} (hg : ¬ (g < b1 ∨ O g)) (o : Nat) (vs : List Value) : Kp b1 O w (w.setCells g o vs) := by
  have h : Turns (fun i => i = g) w (w.setCells g o vs) (fun i => i = g) := Turns.sets (O := fun i => i = g) (g := g) (.inl rfl) vs o (Turns.refl (fun i => i = g) w)
  exact ⟨h.os, h.tape, h.output, h.size, fun i hi ho => h.block i hi (fun e => hg (e ▸ ho))⟩
end
/-- The view lies in a box at bl; its parts are as look made them. -/
structure VwB (W : World) (bl : Nat) (L : List Sn) (a : Option Addr) (n cap : Nat) (a' : Option Addr) (c' r : Nat) (V : Nm → Value) : Prop where
  box : At W bl 63 (vwv a n cap a' (decL L).length c' r).toArray
  rd : Rd W a (rowsOf Sn.cs L)
  names : Rd W a' (rowsOf Nm.cs (decL L))
  vw : Vw W L r V
end Go.Proofs.Ytfigoeoimefngaa
