/-
  A disk in memory: what is durable, what was written since, whether it is down; which blocks are its own.
-/
import Derived.Test.YtmcofmidpedkiaaMp
import Derived.Test.YtmcofmidpedkiaaApp
import Derived.Test.YtmcofmidpedkiaaMid
namespace Go.Proofs.Ytmcofmidpedkiaa
open Go.RowKit Go.Maps

/-- The cells of a disk. -/
def dkc (dur : List Nat) (m : Nat) (down : Bool) : List Value := bys dur ++ [.map (some m), .bool down]
theorem dkc_length (dur : List Nat) (m : Nat) (down : Bool) (h : dur.length = 2176) : (dkc dur m down).length = 2178 := by simp [dkc, bys_length, h]
/-- A write: a block of 64 bytes. -/
def Sec (w : World) (v : Value) (l : List Nat) : Prop := ∃ b, v = .slice (some ⟨b, 0, none⟩) 64 64 ∧ l.length = 64 ∧ At w b 5 (bys l).toArray
/-- A sector's writes: the first one first. -/
def Row (w : World) (B : Nat) (v : Value) (L : List (List Nat)) : Prop := ∃ sl : List Value, w.ownsRow B 28 1 v L.length sl ∧ ∀ (i : Nat) (l : List Nat), L[i]? = some l → ∃ s, sl[i]? = some s ∧ Sec w s l
/-- What the cache holds at a key. -/
def fC (C : Nat → List (List Nat)) (V : Nat → Value) : Lit → Option Value
  | .int .i64 z => if 0 ≤ z ∧ z < 34 ∧ C z.toNat ≠ [] then some (V z.toNat) else none
  | _ => none
theorem fC_at (C : Nat → List (List Nat)) (V : Nat → Value) (x : Nat) (hx : x < 34) : fC C V (.int .i64 (x : Int)) = if C x = [] then none else some (V x) := by
  show (if 0 ≤ (x : Int) ∧ (x : Int) < 34 ∧ C (x : Int).toNat ≠ [] then some (V (x : Int).toNat) else none) = _
  by_cases h : C x = []
  · rw [if_pos h, if_neg (by simp [h])]
  · rw [if_neg h, if_pos ⟨by omega, by omega, by simpa using h⟩]; simp
def keys34 : List Lit := (List.range 34).map fun x : Nat => Lit.int .i64 (x : Int)
theorem fC_some {C : Nat → List (List Nat)} {V : Nat → Value} {kl : Lit} (h : (fC C V kl).isSome = true) : ∃ x : Nat, x < 34 ∧ C x ≠ [] ∧ kl = .int .i64 (x : Int) := by
  unfold fC at h
  split at h
  · rename_i z
    split at h
    · rename_i hz
      exact ⟨z.toNat, by omega, hz.2.2, by rw [Int.toNat_of_nonneg hz.1]⟩
    · cases h
  · cases h
theorem fC_mem {C : Nat → List (List Nat)} {V : Nat → Value} (kl : Lit) (h : (fC C V kl).isSome = true) : kl ∈ keys34 := by
  obtain ⟨x, hx, _, rfl⟩ := fC_some h
  exact List.mem_map.2 ⟨x, List.mem_range.2 hx, rfl⟩

/-- A disk at block g; its own blocks are O, all from B on. -/
def Dk (w : World) (B : Nat) (O : Nat → Prop) (g : Nat) (dur : List Nat) (C : Nat → List (List Nat)) (down : Bool) : Prop :=
  ∃ (m : Nat) (V : Nat → Value), At w g 58 (dkc dur m down).toArray ∧ dur.length = 2176 ∧ O g ∧ O m ∧ Mp Try.prog 3 w m (fC C V) ∧
    (∀ x, x < 34 → C x ≠ [] → Row w B (V x) (C x) ∧ ∃ b, (V x).ownBlock = some b ∧ O b) ∧
    (∀ x y, x < 34 → y < 34 → x ≠ y → C x ≠ [] → C y ≠ [] → (V x).ownBlock ≠ (V y).ownBlock) ∧ (∀ i, O i → B ≤ i ∧ i < w.heap.size)

/-- Nothing that was there has turned but the blocks of O; O' has blocks of O and new ones alone. -/
structure Turns (O : Nat → Prop) (w w' : World) (O' : Nat → Prop) : Prop where
  os : w'.os = w.os
  tape : w'.tape = w.tape
  output : w'.output = w.output
  size : w.heap.size ≤ w'.heap.size
  block : ∀ i, i < w.heap.size → ¬ O i → w'.heap[i]? = w.heap[i]?
  own : ∀ i, O' i → O i ∨ w.heap.size ≤ i
section
variable {O O1 O2 : Nat → Prop} {a w w1 w2 : World}
theorem Turns.refl (O : Nat → Prop) (w : World) : Turns O w w O := ⟨rfl, rfl, rfl, Nat.le_refl _, fun _ _ _ => rfl, fun _ h => .inl h⟩
theorem Turns.trans (h : Turns O w w1 O1) (k : Turns O1 w1 w2 O2) : Turns O w w2 O2 :=
  ⟨k.os.trans h.os, k.tape.trans h.tape, k.output.trans h.output, Nat.le_trans h.size k.size, fun i hi ho => by
    have h1 : ¬ O1 i := fun h1 => by
      rcases h.own i h1 with h2 | h2
      · exact ho h2
      · omega
    exact (k.block i (Nat.lt_of_lt_of_le hi h.size) h1).trans (h.block i hi ho), fun i hi => by
    have := h.size
    rcases k.own i hi with h1 | h1
    · exact h.own i h1
    · exact .inr (by omega)⟩
theorem Turns.grows (h : Turns O w w1 O1) (k : Grows w1 w2) : Turns O w w2 O1 :=
  ⟨k.os.trans h.os, k.tape.trans h.tape, k.output.trans h.output, Nat.le_trans h.size k.size, fun i hi ho => (k.block i (Nat.lt_of_lt_of_le hi h.size)).trans (h.block i hi ho), h.own⟩
theorem Turns.after (h : Turns O w1 w2 O1) (k : Grows w w1) : Turns O w w2 O1 :=
  ⟨h.os.trans k.os, h.tape.trans k.tape, h.output.trans k.output, Nat.le_trans k.size h.size, fun i hi ho => (h.block i (Nat.lt_of_lt_of_le hi k.size) ho).trans (k.block i hi), fun i hi => by
    have := k.size
    rcases h.own i hi with h1 | h1
    · exact .inl h1
    · exact .inr (by omega)⟩
theorem Turns.at (h : Turns O w w1 O1) {g : Nat} {t : TypeId} {cs : Array Value} (hg : At w g t cs) (ho : ¬ O g) : At w1 g t cs := (h.block g hg.lt ho).trans hg
theorem Turns.low (h : Turns O w w1 O1) (k : Grows a w) (hO : ∀ i, O i → a.heap.size ≤ i) : Grows a w1 :=
  ⟨h.os.trans k.os, h.tape.trans k.tape, h.output.trans k.output, Nat.le_trans k.size h.size, fun i hi => (h.block i (Nat.lt_of_lt_of_le hi k.size) (fun ho => by have := hO i ho; omega)).trans (k.block i hi)⟩
theorem Turns.rd (h : Turns O w w1 O1) {p : Option Addr} {xs : List Value} (hr : Rd w p xs) (ho : ∀ b off, p = some ⟨b, off, none⟩ → ¬ O b) : Rd w1 p xs := by
  rcases hr with hr | ⟨b, off, e, hb, hc⟩
  · exact .inl hr
  · exact .inr ⟨b, off, e, Nat.lt_of_lt_of_le hb h.size, fun i v hv => (World.cell?_of_block (h.block b hb (ho b off e))).trans (hc i v hv)⟩
end

section
variable {w w' : World} {B : Nat} {O : Nat → Prop} {g : Nat} {dur : List Nat} {C : Nat → List (List Nat)} {down : Bool}
theorem Sec.same {v : Value} {l : List Nat} (h : Sec w v l) (hb : ∀ b, b < w.heap.size → (∃ cs, w.heap[b]? = some (.cells cs 5 (0, 0))) → w'.heap[b]? = w.heap[b]?) : Sec w' v l := by
  obtain ⟨b, rfl, hl, ha⟩ := h
  exact ⟨b, rfl, hl, (hb b ha.lt ⟨_, ha⟩).trans ha⟩
theorem Row.same {v : Value} {L : List (List Nat)} (h : Row w B v L) (hv : ∀ b, v.ownBlock = some b → w'.heap[b]? = w.heap[b]?) (hb : ∀ b, b < w.heap.size → (∃ cs, w.heap[b]? = some (.cells cs 5 (0, 0))) → w'.heap[b]? = w.heap[b]?) : Row w' B v L := by
  obtain ⟨sl, h1, h2⟩ := h
  refine ⟨sl, ⟨h1.1, ?_⟩, fun i l hl => ?_⟩
  · rcases h1.2 with h3 | ⟨g, cap, cur, h3, h4, h5, h6⟩
    · exact .inl h3
    · exact .inr ⟨g, cap, cur, h3, h4, (hv g (by rw [h3]; rfl)).trans h5, h6⟩
  · obtain ⟨s, h3, h4⟩ := h2 i l hl
    exact ⟨s, h3, h4.same hb⟩
theorem Row.grows {v : Value} {L : List (List Nat)} (h : Row w B v L) (hg : Grows w w') : Row w' B v L := by
  refine h.same (fun b hb => hg.block b ?_) (fun b hb _ => hg.block b hb)
  obtain ⟨sl, h1, _⟩ := h
  rcases h1.2 with h3 | ⟨g, cap, cur, h3, h4, h5, h6⟩
  · rw [h3.1] at hb; cases hb
  · rw [h3] at hb; cases hb; exact (Array.getElem?_eq_some_iff.1 h5).1
theorem Dk.grows (h : Dk w B O g dur C down) (hg : Grows w w') : Dk w' B O g dur C down := by
  obtain ⟨m, V, h1, h2, h3, h4, h5, h6, h7, h8⟩ := h
  exact ⟨m, V, h1.grows hg, h2, h3, h4, h5.grows hg, fun x hx hc => ⟨(h6 x hx hc).1.grows hg, (h6 x hx hc).2⟩, h7, fun i hi => ⟨(h8 i hi).1, Nat.lt_of_lt_of_le (h8 i hi).2 hg.size⟩⟩
theorem Dk.lt (h : Dk w B O g dur C down) {i : Nat} (hi : O i) : i < w.heap.size := by
  obtain ⟨m, V, h1, h2, h3, h4, h5, h6, h7, h8⟩ := h
  exact (h8 i hi).2
theorem Dk.ge (h : Dk w B O g dur C down) {i : Nat} (hi : O i) : B ≤ i := by
  obtain ⟨m, V, h1, h2, h3, h4, h5, h6, h7, h8⟩ := h
  exact (h8 i hi).1
theorem Dk.base (h : Dk w B O g dur C down) : B ≤ w.heap.size := by
  obtain ⟨m, V, h1, h2, h3, h4, h5, h6, h7, h8⟩ := h
  have := h8 g h3
  omega
/-- What is new is not the disk's. -/
theorem Dk.not (h : Dk w B O g dur C down) {i : Nat} (hi : w.heap.size ≤ i) : ¬ O i := fun ho => by have := h.lt ho; omega
theorem Dk.low {i : Nat} (h : Dk w B O g dur C down) (hi : i < B) : ¬ O i := fun ho => by have := h.ge ho; omega
theorem Dk.len (h : Dk w B O g dur C down) : dur.length = 2176 := by
  obtain ⟨m, V, h1, h2, _⟩ := h
  exact h2
/-- The disk's two cells behind its sectors. -/
theorem dk_cells {m : Nat} (h : At w g 58 (dkc dur m down).toArray) (hl : dur.length = 2176) : w.cell? ⟨g, 2176, none⟩ = some (.map (some m)) ∧ w.cell? ⟨g, 2177, none⟩ = some (.bool down) := by
  have e := bys_length dur
  rw [hl] at e
  constructor
  · rw [h.cell]; simp [dkc, e]
  · rw [h.cell]; simp [dkc, e]
end

theorem keyed : Keyed Try.prog 3 := int_keyed Try.underlying3
theorem key_at (x : Nat) (hx : x < 34) : keyOf Try.prog 3 (.int .i64 (x : Int)) = some (.int .i64 (x : Int)) := keyOf_int_mk Try.underlying3 (by simp [Lit.wf, IntKind.min, IntKind.max, IntKind.signed, IntKind.bits]; omega)
theorem zsl (W : World) : (zeroValue 64).run Try.prog W = .ok (.slice none 0 0) W := by kernel_rfl
end Go.Proofs.Ytmcofmidpedkiaa
