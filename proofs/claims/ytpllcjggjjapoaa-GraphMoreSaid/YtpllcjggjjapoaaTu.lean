/-
  Which blocks turn: those of O alone.
-/
import Derived.Test.YtpllcjggjjapoaaApp
import Derived.Test.YtpllcjggjjapoaaMid
import Derived.Test.YtpllcjggjjapoaaRf
namespace Go.Proofs.Ytpllcjggjjapoaa
open Go.RowKit

/-- Nothing that was there has turned but the blocks of O; O' has blocks of O and new ones alone. -/
structure Turns (O : Nat → Prop) (w w' : World) (O' : Nat → Prop) : Prop where
  os : w'.os = w.os
  tape : w'.tape = w.tape
  output : w'.output = w.output
  size : w.heap.size ≤ w'.heap.size
  block : ∀ i, i < w.heap.size → ¬ O i → w'.heap[i]? = w.heap[i]?
  own : ∀ i, O' i → O i ∨ w.heap.size ≤ i
section
variable {O O1 O2 : Nat → Prop} {a w w1 w2 : World}
theorem Turns.refl (O : Nat → Prop) (w : World) : Turns O w w O := ⟨rfl, rfl, rfl, Nat.le_refl _, fun _ _ _ => rfl, fun _ h => .inl h⟩
theorem Turns.trans (h : Turns O w w1 O1) (k : Turns O1 w1 w2 O2) : Turns O w w2 O2 :=
  ⟨k.os.trans h.os, k.tape.trans h.tape, k.output.trans h.output, Nat.le_trans h.size k.size, fun i hi ho => by
    have h1 : ¬ O1 i := fun h1 => by
      rcases h.own i h1 with h2 | h2
      · exact ho h2
      · omega
    exact (k.block i (Nat.lt_of_lt_of_le hi h.size) h1).trans (h.block i hi ho), fun i hi => by
    have := h.size
    rcases k.own i hi with h1 | h1
    · exact h.own i h1
    · exact .inr (by omega)⟩
theorem Turns.grows (h : Turns O w w1 O1) (k : Grows w1 w2) : Turns O w w2 O1 :=
  ⟨k.os.trans h.os, k.tape.trans h.tape, k.output.trans h.output, Nat.le_trans h.size k.size, fun i hi ho => (k.block i (Nat.lt_of_lt_of_le hi h.size)).trans (h.block i hi ho), h.own⟩
theorem Turns.after (h : Turns O w1 w2 O1) (k : Grows w w1) : Turns O w w2 O1 :=
  ⟨h.os.trans k.os, h.tape.trans k.tape, h.output.trans k.output, Nat.le_trans k.size h.size, fun i hi ho => (h.block i (Nat.lt_of_lt_of_le hi k.size) ho).trans (k.block i hi), fun i hi => by
    have := k.size
    rcases h.own i hi with h1 | h1
    · exact .inl h1
    · exact .inr (by omega)⟩
theorem Turns.at (h : Turns O w w1 O1) {g : Nat} {t : TypeId} {cs : Array Value} (hg : At w g t cs) (ho : ¬ O g) : At w1 g t cs := (h.block g hg.lt ho).trans hg
theorem Turns.low (h : Turns O w w1 O1) (k : Grows a w) (hO : ∀ i, O i → a.heap.size ≤ i) : Grows a w1 :=
  ⟨h.os.trans k.os, h.tape.trans k.tape, h.output.trans k.output, Nat.le_trans k.size h.size, fun i hi => (h.block i (Nat.lt_of_lt_of_le hi k.size) (fun ho => by have := hO i ho; omega)).trans (k.block i hi)⟩
theorem Turns.rd (h : Turns O w w1 O1) {p : Option Addr} {xs : List Value} (hr : Rd w p xs) (ho : ∀ b off, p = some ⟨b, off, none⟩ → ¬ O b) : Rd w1 p xs := by
  rcases hr with hr | ⟨b, off, e, hb, hc⟩
  · exact .inl hr
  · exact .inr ⟨b, off, e, Nat.lt_of_lt_of_le hb h.size, fun i v hv => (World.cell?_of_block (h.block b hb (ho b off e))).trans (hc i v hv)⟩
end

section
variable {O O1 O2 : Nat → Prop} {a w w1 w2 : World}
theorem Turns.alloc (h : Turns O w w1 O1) (o : Obj) : Turns O w (w1.alloc o) O1 := h.grows ((Grows.refl _).alloc o)
theorem Turns.set (h : Turns O w w1 O1) {g : Nat} (hg : O g ∨ w.heap.size ≤ g) (i : Nat) (u : Value) : Turns O w (w1.setCell ⟨g, i, none⟩ u) O1 :=
  ⟨h.os, h.tape, h.output, by simpa using h.size, fun j hj hn => (Below.heap_setCell w1 ⟨g, i, none⟩ u j (fun e => by
    have e' : j = g := e
    subst e'
    rcases hg with h1 | h1
    · exact hn h1
    · omega)).trans (h.block j hj hn), h.own⟩
theorem Turns.put (h : Turns O w w1 O1) {g : Nat} (hg : O g ∨ w.heap.size ≤ g) (o : Obj) : Turns O w (w1.putObj g o) O1 :=
  ⟨h.os, h.tape, h.output, by simpa [World.putObj] using h.size, fun j hj hn => (World.putObj_heap_other (fun e => by
    have e' : j = g := e
    subst e'
    rcases hg with h1 | h1
    · exact hn h1
    · omega)).trans (h.block j hj hn), h.own⟩
theorem Turns.wide (h : Turns O w w1 O1) {O' O1' : Nat → Prop} (hO : ∀ i, O i → O' i) (h1 : ∀ i, O1' i → O1 i ∨ O' i) : Turns O' w w1 O1' :=
  ⟨h.os, h.tape, h.output, h.size, fun i hi hn => h.block i hi (fun e => hn (hO i e)), fun i hi => by
    rcases h1 i hi with h2 | h2
    · rcases h.own i h2 with h3 | h3
      · exact .inl (hO i h3)
      · exact .inr h3
    · exact .inl h2⟩
theorem own_keep {B : Nat} {e : TypeId} {size n : Nat} {v : Value} {xs : List Value} (h : w.ownsRow B e size v n xs) (hb : ∀ b, v.ownBlock = some b → w1.heap[b]? = w.heap[b]?) : w1.ownsRow B e size v n xs := by
  refine ⟨h.1, ?_⟩
  rcases h.2 with h3 | ⟨g, cap, cur, h3, h4, h5, h6⟩
  · exact .inl h3
  · exact .inr ⟨g, cap, cur, h3, h4, (hb g (by rw [h3]; rfl)).trans h5, h6⟩
theorem own_typed {B : Nat} {e : TypeId} {size n : Nat} {v : Value} {xs : List Value} (h : w.ownsRow B e size v n xs) {b : Nat} (hb : v.ownBlock = some b) : ∃ cur, w.heap[b]? = some (.cells cur e (0, 0)) ∧ B ≤ b ∧ b < w.heap.size := by
  rcases h.2 with h2 | ⟨g, cap, cur, h1, h2, h3, _⟩
  · rw [h2.1] at hb; cases hb
  · rw [h1] at hb; cases hb; exact ⟨cur, h3, h2, (Array.getElem?_eq_some_iff.1 h3).1⟩
/-- A row's block is no block of another type. -/
theorem own_apart {B : Nat} {e t : TypeId} {size n g : Nat} {v : Value} {xs : List Value} {cs : Array Value} (h : w.ownsRow B e size v n xs) (hg : At w g t cs) (ht : e ≠ t) : v.ownBlock ≠ some g := by
  intro hb
  obtain ⟨cur, h1, _⟩ := own_typed h hb
  unfold At at hg
  rw [hg] at h1
  injection h1 with h1
  injection h1 with _ h1
  exact ht h1.symm
end
end Go.Proofs.Ytpllcjggjjapoaa
