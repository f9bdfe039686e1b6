/-
  What the walks say of memory: nothing old has turned (Grows); a slice reads as a list of cells (Rd); a block is known whole (At).
-/
import Derived.Test.YtpllcjggjjapoaaRows
import Derived.WalkKit
import Derived.WalkSpells
import Derived.WalkLawsBesides
import Derived.Lib.Hide
import Derived.RegionTactic
import Derived.ChangeAlike
import Derived.Laws.Rows
import Derived.Deep.LoopGhost
import Derived.Deep.Draws
import Derived.IntWalk
namespace Go.Proofs.Ytpllcjggjjapoaa
open Go.RowKit

/-- Whatever was there is as it was; new blocks may have come. -/
def Grows (w w' : World) : Prop := Below w.heap.size w w'
section
variable {w w' a b c : World}
theorem Grows.refl (w : World) : Grows w w := Below.refl _ _
theorem Grows.alloc (h : Grows w w') (o : Obj) : Grows w (w'.alloc o) := Below.alloc h h.size o
theorem Grows.drew (h : Grows w w') : Grows w w'.drew := Below.drew h
theorem Grows.drewN (h : Grows w w') (n : Nat) : Grows w (w'.drewN n) := ⟨h.os, h.tape, h.output, h.size, h.block⟩
theorem Grows.trans (h : Grows a b) (k : Grows b c) : Grows a c := Below.trans h (Below.mono k h.size)
theorem Grows.setCell (h : Grows w w') {p : Addr} (hp : w.heap.size ≤ p.block) (u : Value) : Grows w (w'.setCell p u) := Below.setCell h hp u
theorem Grows.size (h : Grows w w') : w.heap.size ≤ w'.heap.size := Below.size h
theorem Grows.cell (h : Grows w w') (b o : Nat) (hb : b < w.heap.size) : w'.cell? ⟨b, o, none⟩ = w.cell? ⟨b, o, none⟩ := Below.cell h (p := ⟨b, o, none⟩) hb
theorem Grows.frozen (h : Grows w w') (b o : Nat) (hb : b < w.heap.size) : w'.frozen? ⟨b, o, none⟩ = w.frozen? ⟨b, o, none⟩ := Below.frozen h (p := ⟨b, o, none⟩) hb
theorem Grows.below {B : Nat} (h : Below B w w') (hB : w.heap.size ≤ B) : Grows w w' := h.mono hB
theorem Grows.grown {row : Option Nat} (h : Grows a w) (hg : w.grownBy w' row) (hr : ∀ k, row = some k → a.heap.size ≤ k) : Grows a w' := Below.grown h hg h.size hr
end

/-- A block that is known whole, none of it frozen. -/
def At (w : World) (g : Nat) (t : TypeId) (cs : Array Value) : Prop := w.heap[g]? = some (.cells cs t (0, 0))
section
variable {w w' : World} {g : Nat} {t : TypeId} {cs : Array Value}
theorem At.lt (h : At w g t cs) : g < w.heap.size := by
  rcases Nat.lt_or_ge g w.heap.size with hlt | hge
  · exact hlt
  · unfold At at h; rw [Array.getElem?_eq_none hge] at h; cases h
theorem At.cell (h : At w g t cs) (i : Nat) : w.cell? ⟨g, i, none⟩ = cs[i]? := by
  unfold At at h
  simp [World.cell?, h]
theorem At.frozen (h : At w g t cs) (i : Nat) : w.frozen? ⟨g, i, none⟩ = false := by
  unfold At at h
  simp [World.frozen?, h]
theorem At.new (w : World) (t : TypeId) (cs : Array Value) : At (w.alloc (.cells cs t)) w.heap.size t cs := by
  unfold At World.alloc
  simp
theorem At.drew (h : At w g t cs) : At w.drew g t cs := h
theorem At.alloc (h : At w g t cs) (o : Obj) : At (w.alloc o) g t cs := (Below.heap_alloc w o g h.lt).trans h
theorem At.set (h : At w g t cs) (i : Nat) (u : Value) : At (w.setCell ⟨g, i, none⟩ u) g t (cs.setIfInBounds i u) := by
  unfold At at h ⊢
  simp [World.setCell, Array.getElem?_modify, h]
theorem At.far (h : At w g t cs) {p : Addr} (hp : g ≠ p.block) (u : Value) : At (w.setCell p u) g t cs := (Below.heap_setCell w p u g hp).trans h
theorem At.grows (h : At w g t cs) (hb : Grows w w') : At w' g t cs := (hb.block g h.lt).trans h
end

/-- The slice that begins at a reads as the cells xs. -/
def Rd (w : World) (a : Option Addr) (xs : List Value) : Prop :=
  xs = [] ∨ ∃ b off, a = some ⟨b, off, none⟩ ∧ b < w.heap.size ∧ ∀ i v, xs[i]? = some v → w.cell? ⟨b, off + i, none⟩ = some v
section
variable {w w' : World} {a : Option Addr} {xs : List Value}
theorem Rd.nil (w : World) (a : Option Addr) : Rd w a [] := .inl rfl
theorem Rd.grows (h : Rd w a xs) (hg : Grows w w') : Rd w' a xs := by
  rcases h with h | ⟨b, off, e, hb, hc⟩
  · exact .inl h
  · exact .inr ⟨b, off, e, Nat.lt_of_lt_of_le hb hg.size, fun i v hv => (hg.cell _ _ hb).trans (hc i v hv)⟩
theorem Rd.at (h : Rd w a xs) (hx : 0 < xs.length) : ∃ b off, a = some ⟨b, off, none⟩ ∧ b < w.heap.size ∧ ∀ i (hi : i < xs.length), w.cell? ⟨b, off + i, none⟩ = some xs[i] := by
  rcases h with h | ⟨b, off, e, hb, hc⟩
  · subst h; simp at hx
  · exact ⟨b, off, e, hb, fun i hi => hc i _ (List.getElem?_eq_getElem hi)⟩
/-- The address of 'x[lo:..]', as the model has it: at the capacity it stays. -/
def cutAddr (a : Option Addr) (m l : Nat) : Option Addr := if m = l then a else a.map (·.add l)
theorem Rd.cut (h : Rd w a xs) (lo n m : Nat) (hm : lo + n ≤ m) : Rd w (cutAddr a m lo) ((xs.drop lo).take n) := by
  rcases h with h | ⟨b, off, e, hb, hc⟩
  · subst h; exact .inl (by simp)
  · by_cases h0 : m = lo
    · have : n = 0 := by omega
      subst this
      exact .inl (by simp)
    · refine .inr ⟨b, off + lo, ?_, hb, fun i v hv => ?_⟩
      · subst e
        simp only [cutAddr, if_neg h0, Option.map_some, Addr.add]
        split
        · rename_i hz; subst hz; rfl
        · rfl
      · have hi : i < n := by
          rcases Nat.lt_or_ge i n with hi | hi
          · exact hi
          · rw [List.getElem?_eq_none (by simp; omega)] at hv; cases hv
        rw [List.getElem?_take_of_lt hi, List.getElem?_drop] at hv
        have := hc (lo + i) v hv
        rw [show off + lo + i = off + (lo + i) by omega]
        exact this
theorem Rd.own {base : Nat} {e : TypeId} {size n cap : Nat} (h : w.ownsRow base e size (.slice a n cap) n xs) : Rd w a xs := by
  by_cases hn : n = 0
  · left
    have := h.1
    subst hn
    simpa using this
  · rcases h.2 with ⟨_, h0⟩ | ⟨g, cap', cur, hv, _, hh, _⟩
    · omega
    · have hlt := (Array.getElem?_eq_some_iff.1 hh).1
      injection hv with h1 h2 h3
      subst h1
      refine .inr ⟨g, 0, rfl, hlt, fun i v hv => ?_⟩
      have := h.cells (g := g) rfl i v hv
      rw [← this]
      congr 1
      simp only [Addr.add]
      split <;> simp_all
end

/-- Bytes as cells. -/
def bys (l : List Nat) : List Value := l.map fun x : Nat => Value.int .u8 (x : Int)
theorem bys_length (l : List Nat) : (bys l).length = l.length := by simp [bys]
theorem bys_at (l : List Nat) (i : Nat) (h : i < l.length) : (bys l)[i]'(by rw [bys_length]; exact h) = .int .u8 (l[i] : Int) := by simp [bys]

theorem ret_int {k : IntKind} {a b : Int} (h : a = b) : Ending.returned (.int k a) = .returned (.int k b) := by rw [h]

end Go.Proofs.Ytpllcjggjjapoaa
