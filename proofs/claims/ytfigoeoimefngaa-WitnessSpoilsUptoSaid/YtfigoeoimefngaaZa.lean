import Derived.Test.YtfigoeoimefngaaRows
import Derived.WalkKit
import Derived.WalkSpells
import Derived.WalkLawsBesides
import Derived.Lib.Hide
import Derived.RegionTactic
import Derived.ChangeAlike
import Derived.Laws.Rows
import Derived.Deep.LoopGhost
import Derived.Deep.Draws
import Derived.IntWalk
import Derived.Deep.MidRow
import Derived.Maps.RangeWalk
import Derived.Maps.Ext
import Derived.WideKeyEntry
import Derived.Maps.AppendAt
import Derived.Deep.AppendLies
import Derived.OwnWalk
import Derived.ArgAppend
import Derived.Deep.RegionHeld3
import Derived.RangeFuncNested
import Derived.RangeFuncLeaves
import Derived.RangeFuncCalls
import Derived.Shelf.Abstract
import Derived.OwnWalkIn
import Derived.TacticsInMore
import Derived.LoopNIn
import Derived.LoopIn
import Derived.Laws.StructEq
import Derived.Deep.QuietTactic
import Derived.BigQuiet
import Derived.Orders
import Derived.ProofKit
import Derived.OpenShut
import Derived.ChangeOld
import Derived.Deep.Slices
/-
  What the walks say of memory: nothing old has turned (Grows); a slice reads as a list of cells (Rd); a block is known whole (At).
-/
namespace Go.Proofs.Ytfigoeoimefngaa
open Go.RowKit

/-- Whatever was there is as it was; new blocks may have come. -/
def Grows (w w' : World) : Prop := Below w.heap.size w w'
section
variable {w w' a b c : World}
theorem Grows.refl (w : World) : Grows w w := Below.refl _ _
theorem Grows.alloc (h : Grows w w') (o : Obj) : Grows w (w'.alloc o) := Below.alloc h h.size o
theorem Grows.drew (h : Grows w w') : Grows w w'.drew := Below.drew h
theorem Grows.drewN (h : Grows w w') (n : Nat) : Grows w (w'.drewN n) := ⟨h.os, h.tape, h.output, h.size, h.block⟩
theorem Grows.trans (h : Grows a b) (k : Grows b c) : Grows a c := Below.trans h (Below.mono k h.size)
theorem Grows.setCell (h : Grows w w') {p : Addr} (hp : w.heap.size ≤ p.block) (u : Value) : Grows w (w'.setCell p u) := Below.setCell h hp u
theorem Grows.size (h : Grows w w') : w.heap.size ≤ w'.heap.size := Below.size h
theorem Grows.cell (h : Grows w w') (b o : Nat) (hb : b < w.heap.size) : w'.cell? ⟨b, o, none⟩ = w.cell? ⟨b, o, none⟩ := Below.cell h (p := ⟨b, o, none⟩) hb
theorem Grows.frozen (h : Grows w w') (b o : Nat) (hb : b < w.heap.size) : w'.frozen? ⟨b, o, none⟩ = w.frozen? ⟨b, o, none⟩ := Below.frozen h (p := ⟨b, o, none⟩) hb
theorem Grows.below {B : Nat} (h : Below B w w') (hB : w.heap.size ≤ B) : Grows w w' := h.mono hB
theorem Grows.grown {row : Option Nat} (h : Grows a w) (hg : w.grownBy w' row) (hr : ∀ k, row = some k → a.heap.size ≤ k) : Grows a w' := Below.grown h hg h.size hr
end

/-- A block that is known whole, none of it frozen. -/
def At (w : World) (g : Nat) (t : TypeId) (cs : Array Value) : Prop := w.heap[g]? = some (.cells cs t (0, 0))
section
variable {w w' : World} {g : Nat} {t : TypeId} {cs : Array Value}
theorem At.lt (h : At w g t cs) : g < w.heap.size := by
  rcases Nat.lt_or_ge g w.heap.size with hlt | hge
  · exact hlt
  · unfold At at h; rw [Array.getElem?_eq_none hge] at h; cases h
theorem At.cell (h : At w g t cs) (i : Nat) : w.cell? ⟨g, i, none⟩ = cs[i]? := by
  unfold At at h
  simp [World.cell?, h]
theorem At.frozen (h : At w g t cs) (i : Nat) : w.frozen? ⟨g, i, none⟩ = false := by
  unfold At at h
  simp [World.frozen?, h]
theorem At.new (w : World) (t : TypeId) (cs : Array Value) : At (w.alloc (.cells cs t)) w.heap.size t cs := by
  unfold At World.alloc
  simp
theorem At.drew (h : At w g t cs) : At w.drew g t cs := h
theorem At.alloc (h : At w g t cs) (o : Obj) : At (w.alloc o) g t cs := (Below.heap_alloc w o g h.lt).trans h
theorem At.set (h : At w g t cs) (i : Nat) (u : Value) : At (w.setCell ⟨g, i, none⟩ u) g t (cs.setIfInBounds i u) := by
  unfold At at h ⊢
  simp [World.setCell, Array.getElem?_modify, h]
theorem At.far (h : At w g t cs) {p : Addr} (hp : g ≠ p.block) (u : Value) : At (w.setCell p u) g t cs := (Below.heap_setCell w p u g hp).trans h
theorem At.grows (h : At w g t cs) (hb : Grows w w') : At w' g t cs := (hb.block g h.lt).trans h
end

/-- The slice that begins at a reads as the cells xs. -/
def Rd (w : World) (a : Option Addr) (xs : List Value) : Prop :=
  xs = [] ∨ ∃ b off, a = some ⟨b, off, none⟩ ∧ b < w.heap.size ∧ ∀ i v, xs[i]? = some v → w.cell? ⟨b, off + i, none⟩ = some v
section
variable {w w' : World} {a : Option Addr} {xs : List Value}
theorem Rd.nil (w : World) (a : Option Addr) : Rd w a [] := .inl rfl
theorem Rd.grows (h : Rd w a xs) (hg : Grows w w') : Rd w' a xs := by
  rcases h with h | ⟨b, off, e, hb, hc⟩
  · exact .inl h
  · exact .inr ⟨b, off, e, Nat.lt_of_lt_of_le hb hg.size, fun i v hv => (hg.cell _ _ hb).trans (hc i v hv)⟩
theorem Rd.at (h : Rd w a xs) (hx : 0 < xs.length) : ∃ b off, a = some ⟨b, off, none⟩ ∧ b < w.heap.size ∧ ∀ i (hi : i < xs.length), w.cell? ⟨b, off + i, none⟩ = some xs[i] := by
  rcases h with h | ⟨b, off, e, hb, hc⟩
  · subst h; simp at hx
  · exact ⟨b, off, e, hb, fun i hi => hc i _ (List.getElem?_eq_getElem hi)⟩
/-- The address of 'x[lo:..]', as the model has it: at the capacity it stays. -/
def cutAddr (a : Option Addr) (m l : Nat) : Option Addr := if m = l then a else a.map (·.add l)
theorem Rd.cut (h : Rd w a xs) (lo n m : Nat) (hm : lo + n ≤ m) : Rd w (cutAddr a m lo) ((xs.drop lo).take n) := by
  rcases h with h | ⟨b, off, e, hb, hc⟩
  · subst h; exact .inl (by simp)
  · by_cases h0 : m = lo
    · have : n = 0 := by omega
      subst this
      exact .inl (by simp)
    · refine .inr ⟨b, off + lo, ?_, hb, fun i v hv => ?_⟩
      · subst e
        simp only [cutAddr, if_neg h0, Option.map_some, Addr.add]
        split
        · rename_i hz; subst hz; rfl
        · rfl
      · have hi : i < n := by
          rcases Nat.lt_or_ge i n with hi | hi
          · exact hi
          · rw [List.getElem?_eq_none (by simp; omega)] at hv; cases hv
        rw [List.getElem?_take_of_lt hi, List.getElem?_drop] at hv
        have := hc (lo + i) v hv
        rw [show off + lo + i = off + (lo + i) by omega]
        exact this
theorem Rd.own {base : Nat} {e : TypeId} {size n cap : Nat} (h : w.ownsRow base e size (.slice a n cap) n xs) : Rd w a xs := by
  by_cases hn : n = 0
  · left
    have := h.1
    subst hn
    simpa using this
  · rcases h.2 with ⟨_, h0⟩ | ⟨g, cap', cur, hv, _, hh, _⟩
    · omega
    · have hlt := (Array.getElem?_eq_some_iff.1 hh).1
      injection hv with h1 h2 h3
      subst h1
      refine .inr ⟨g, 0, rfl, hlt, fun i v hv => ?_⟩
      have := h.cells (g := g) rfl i v hv
      rw [← this]
      congr 1
      simp only [Addr.add]
      split <;> simp_all
end

/-- Bytes as cells. -/
def bys (l : List Nat) : List Value := l.map fun x : Nat => Value.int .u8 (x : Int)
theorem bys_length (l : List Nat) : (bys l).length = l.length := by simp [bys]
theorem bys_at (l : List Nat) (i : Nat) (h : i < l.length) : (bys l)[i]'(by rw [bys_length]; exact h) = .int .u8 (l[i] : Int) := by simp [bys]

theorem ret_int {k : IntKind} {a b : Int} (h : a = b) : Ending.returned (.int k a) = .returned (.int k b) := by rw [h]

end Go.Proofs.Ytfigoeoimefngaa

/-
  A row of cells loaded out of, and stored into, a block that is known whole.
-/
namespace Go.Proofs.Ytfigoeoimefngaa
open Go.RowKit

/-- The list with vs from place o on. -/
def spl {α : Type} (xs : List α) (o : Nat) (vs : List α) : List α := xs.take o ++ vs ++ xs.drop (o + vs.length)
section
variable {α β : Type}
theorem spl_length (xs : List α) (o : Nat) (vs : List α) (h : o + vs.length ≤ xs.length) : (spl xs o vs).length = xs.length := by simp [spl]; omega
theorem spl_map (f : α → β) (xs : List α) (o : Nat) (vs : List α) : (spl xs o vs).map f = spl (xs.map f) o (vs.map f) := by simp [spl, List.map_take, List.map_drop]
theorem spl_get (xs : List α) (o : Nat) (vs : List α) (h : o + vs.length ≤ xs.length) (i : Nat) : (spl xs o vs)[i]? = if i < o then xs[i]? else if i < o + vs.length then vs[i - o]? else xs[i]? := by
  unfold spl
  by_cases h1 : i < o
  · rw [if_pos h1, List.append_assoc, List.getElem?_append_left (by simp; omega), List.getElem?_take_of_lt h1]
  · rw [if_neg h1]
    by_cases h2 : i < o + vs.length
    · rw [if_pos h2, List.getElem?_append_left (by simp; omega), List.getElem?_append_right (by simp; omega)]
      simp [Nat.min_eq_left (show o ≤ xs.length by omega)]
    · rw [if_neg h2, List.getElem?_append_right (by simp; omega), List.getElem?_drop]
      congr 1
      simp
      omega
end
theorem bys_spl (H : List Nat) (o : Nat) (v : List Nat) : bys (spl H o v) = spl (bys H) o (bys v) := spl_map _ _ _ _

section
variable {w : World} {g : Nat} {t : TypeId}
theorem At.setCells : ∀ (vs : List Value) {w : World} {cs : List Value} (o : Nat), At w g t cs.toArray → o + vs.length ≤ cs.length → At (w.setCells g o vs) g t (spl cs o vs).toArray
  | [], w, cs, o, h, _ => by simpa [World.setCells, spl] using h
  | v :: vs, w, cs, o, h, hl => by
    simp only [List.length_cons] at hl
    have h1 := h.set o v
    rw [List.setIfInBounds_toArray] at h1
    have h2 := At.setCells vs (o + 1) h1 (by simp; omega)
    rw [World.setCells]
    have e : spl (cs.set o v) (o + 1) vs = spl cs o (v :: vs) := by
      apply List.ext_getElem?
      intro i
      rw [spl_get _ _ _ (by simp; omega), spl_get _ _ _ (by simp; omega)]
      simp only [List.length_cons, List.getElem?_set]
      by_cases h3 : i < o
      · rw [if_pos (by omega), if_pos h3, if_neg (by omega)]
      · rw [if_neg h3]
        by_cases h4 : i = o
        · subst h4
          rw [if_pos (by omega), if_pos rfl, if_pos (by omega), if_pos (by omega)]
          simp
        · rw [if_neg (by omega)]
          by_cases h5 : i < o + 1 + vs.length
          · rw [if_pos h5, if_pos (by omega), show i - o = (i - (o + 1)) + 1 by omega]
            simp
          · rw [if_neg h5, if_neg (by omega), if_neg (by omega)]
    rw [← e]
    exact h2
theorem At.setCells_far {w : World} {cs : Array Value} (h : At w g t cs) {b : Nat} (hb : g ≠ b) : ∀ (vs : List Value) {w : World} (o : Nat), At w g t cs → At (w.setCells b o vs) g t cs
  | [], _, _, h => h
  | v :: vs, w, o, h' => by rw [World.setCells]; exact At.setCells_far h hb vs (o + 1) (h'.far hb v)
theorem At.there {cs : Array Value} (h : At w g t cs) (o n : Nat) (hn : o + n ≤ cs.size) : w.there g o n := fun j hj => by
  rw [h.cell, h.frozen]
  simp
  omega
theorem At.range {cs : List Value} (h : At w g t cs.toArray) (o n : Nat) : w.rangeAt g o ((cs.drop o).take n) := fun j v hv => by
  rw [h.cell]
  rw [List.getElem?_take] at hv
  split at hv
  · simpa using hv
  · cases hv
theorem Grows.setCells {a : World} {b : Nat} (hb : a.heap.size ≤ b) : ∀ (vs : List Value) {w : World} (o : Nat), Grows a w → Grows a (w.setCells b o vs)
  | [], _, _, h => h
  | v :: vs, w, o, h => by rw [World.setCells]; exact Grows.setCells hb vs (o + 1) (h.setCell hb v)
theorem size_setCells (b : Nat) : ∀ (vs : List Value) {w : World} (o : Nat), (w.setCells b o vs).heap.size = w.heap.size
  | [], _, _ => rfl
  | v :: vs, w, o => by rw [World.setCells, size_setCells b vs]; simp
end
end Go.Proofs.Ytfigoeoimefngaa

/-
  Rows of like things, laid one behind the other.
-/
namespace Go.Proofs.Ytfigoeoimefngaa
open Go.RowKit

/-- The cells of the things of a list, each by f. -/
def rowsOf {α : Type} (f : α → List Value) (l : List α) : List Value := l.flatMap f
section
variable {α : Type} {f : α → List Value} {c : Nat}
theorem rows_nil : rowsOf f [] = [] := rfl
theorem rows_cons (x : α) (l : List α) : rowsOf f (x :: l) = f x ++ rowsOf f l := by simp [rowsOf]
theorem rows_append (a b : List α) : rowsOf f (a ++ b) = rowsOf f a ++ rowsOf f b := by simp [rowsOf]
theorem rows_one (x : α) : rowsOf f [x] = f x := by simp [rowsOf]
theorem rows_length (hc : ∀ x, (f x).length = c) (l : List α) : (rowsOf f l).length = l.length * c := by
  induction l with
  | nil => simp [rowsOf]
  | cons x xs ih => rw [rows_cons, List.length_append, ih, hc, List.length_cons, Nat.add_mul, Nat.one_mul, Nat.add_comm]
theorem rows_drop (hc : ∀ x, (f x).length = c) (l : List α) (k : Nat) (hk : k ≤ l.length) : rowsOf f (l.drop k) = (rowsOf f l).drop (k * c) := by
  have h2 : rowsOf f l = rowsOf f (l.take k) ++ rowsOf f (l.drop k) := by rw [← rows_append, List.take_append_drop]
  have h3 : (rowsOf f (l.take k)).length = k * c := by rw [rows_length hc, List.length_take, Nat.min_eq_left hk]
  rw [h2]
  exact (List.drop_left' h3).symm
theorem rows_take (hc : ∀ x, (f x).length = c) (l : List α) (k : Nat) (hk : k ≤ l.length) : rowsOf f (l.take k) = (rowsOf f l).take (k * c) := by
  have h2 : rowsOf f l = rowsOf f (l.take k) ++ rowsOf f (l.drop k) := by rw [← rows_append, List.take_append_drop]
  have h3 : (rowsOf f (l.take k)).length = k * c := by rw [rows_length hc, List.length_take, Nat.min_eq_left hk]
  rw [h2]
  exact (List.take_left' h3).symm
theorem rows_get (hc : ∀ x, (f x).length = c) (l : List α) (k j : Nat) (hk : k < l.length) (hj : j < c) : (rowsOf f l)[k * c + j]? = (f l[k])[j]? := by
  rw [← List.getElem?_drop, ← rows_drop hc l k (by omega), List.drop_eq_getElem_cons hk, rows_cons, List.getElem?_append_left (by rw [hc]; exact hj)]
theorem rows_all {p : Value → Prop} (h : ∀ x, ∀ u ∈ f x, p u) (l : List α) : ∀ u ∈ rowsOf f l, p u := by
  intro u hu
  obtain ⟨x, _, h2⟩ := List.mem_flatMap.1 hu
  exact h x u h2
theorem rows_lt (hc : ∀ x, (f x).length = c) (l : List α) (k j : Nat) (hk : k < l.length) (hj : j < c) : k * c + j < (rowsOf f l).length := by
  rw [rows_length hc]
  have h1 := Nat.mul_le_mul_right c hk
  rw [Nat.succ_mul] at h1
  omega
theorem rows_cell (hc : ∀ x, (f x).length = c) (h0 : 0 < c) {w : World} {a : Option Addr} {l : List α} (h : Rd w a (rowsOf f l)) {k : Nat} (hk : k < l.length) :
    ∃ (g off : Nat), a = some ⟨g, off, none⟩ ∧ g < w.heap.size ∧ ∀ j v, (f l[k])[j]? = some v → w.cell? ⟨g, off + k * c + j, none⟩ = some v := by
  have hl := rows_lt (c := c) hc l k 0 hk h0
  obtain ⟨g, off, rfl, hg, hcl⟩ := h.at (by omega)
  refine ⟨g, off, rfl, hg, fun j v hv => ?_⟩
  have hj : j < c := by
    rcases Nat.lt_or_ge j c with h | h
    · exact h
    · rw [List.getElem?_eq_none (by rw [hc]; exact h)] at hv; cases hv
  have := hcl (k * c + j) (rows_lt hc l k j hk hj)
  rw [show off + k * c + j = off + (k * c + j) by omega, this, ← hv, ← rows_get hc l k j hk hj]
  exact (List.getElem?_eq_getElem _).symm
/-- As rows_cell, by a name for the thing. -/
theorem rows_cell_at (hc : ∀ x, (f x).length = c) (h0 : 0 < c) {w : World} {g off : Nat} {l : List α} (h : Rd w (some ⟨g, off, none⟩) (rowsOf f l)) {k : Nat} {x : α} (hk : l[k]? = some x) :
    g < w.heap.size ∧ w.rangeAt g (off + k * c) (f x) := by
  have hlt : k < l.length := by
    rcases Nat.lt_or_ge k l.length with h | h
    · exact h
    · rw [List.getElem?_eq_none h] at hk; cases hk
  obtain ⟨g', off', he, hg, hcl⟩ := rows_cell hc h0 h hlt
  injection he with he
  injection he with e1 e2
  subst e1
  subst e2
  rw [List.getElem?_eq_getElem hlt] at hk
  injection hk with hk
  rw [hk] at hcl
  exact ⟨hg, fun j v hv => hcl j v hv⟩
end
end Go.Proofs.Ytfigoeoimefngaa

/-
  A map in a block, whose elements are values of whatever type: what it holds is a function of the key; look-up, store, range, clear, copy.
-/
namespace Go.Proofs.Ytfigoeoimefngaa
open Go.RowKit Go.Maps Go.ChangeMaps Go.MapKept Go.WideElems

/-- An element that is taken as it stands. -/
def rawE (v : Value) : Option (DataW Value × List MemPlace) := some (.held v, [])

def View (D : DataW Value) (f : Lit → Option Value) : Prop := ∀ kl, Maps.has D kl = (f kl).isSome ∧ ∀ v, f kl = some v → ∀ zd, D.atKey kl zd = .held v

/-- Block m is a map; f says what it holds. -/
def Mp (P : Program) (k : TypeId) (w : World) (m : Nat) (f : Lit → Option Value) : Prop := ∃ D, w.ownsMap P k rawE m (Maps.size D) D ∧ View D f

/-- f with v at kl. -/
def upd (f : Lit → Option Value) (kl : Lit) (v : Value) : Lit → Option Value := fun z => if z.sameKey kl then some v else f z

theorem size_le_keys : ∀ (es : List (Lit × DataW Value)) (L : List Lit), es.Pairwise (fun p q => p.1 ≠ q.1) → (∀ p ∈ es, p.1 ∈ L) → es.length ≤ L.length
  | [], _, _, _ => Nat.zero_le _
  | x :: es, L, hp, hm => by
    obtain ⟨h1, h2⟩ := List.pairwise_cons.1 hp
    obtain ⟨s, t, rfl⟩ := List.append_of_mem (hm x (by simp))
    have := size_le_keys es (s ++ t) h2 fun p hpm => by
      have h3 := hm p (by simp [hpm])
      have h4 := h1 p hpm
      simp only [List.mem_append, List.mem_cons] at h3 ⊢
      rcases h3 with h3 | h3 | h3
      · exact .inl h3
      · exact absurd h3.symm h4
      · exact .inr h3
    simp only [List.length_append, List.length_cons] at this ⊢
    omega

section
variable {P : Program} {k : TypeId} {w w' : World} {m : Nat} {f : Lit → Option Value}

theorem Mp.made (w : World) (P : Program) (k : TypeId) : Mp P k (w.alloc (.map #[] 0)) w.heap.size (fun _ => none) :=
  ⟨.map [], World.ownsMap_made w P k rawE, fun kl => ⟨rfl, fun v h => by cases h⟩⟩
theorem Mp.lt (h : Mp P k w m f) : m < w.heap.size := by obtain ⟨D, h, _⟩ := h; exact h.lt
theorem Mp.block (h : Mp P k w m f) : ∃ es clock, w.heap[m]? = some (.map es clock) := by
  obtain ⟨D, ⟨es, clock, hb, _⟩, _⟩ := h
  exact ⟨es, clock, hb⟩
/-- The map's block lies as it lay. -/
theorem Mp.same (h : Mp P k w m f) (hb : w'.heap[m]? = w.heap[m]?) : Mp P k w' m f := by
  obtain ⟨D, ⟨es, clock, h1, h2⟩, h3⟩ := h
  exact ⟨D, ⟨es, clock, hb.trans h1, h2⟩, h3⟩
theorem Mp.grows (h : Mp P k w m f) (hg : Grows w w') : Mp P k w' m f := h.same (hg.block m h.lt)
theorem Mp.size_le (h : Mp P k w m f) (K : Keyed P k) (L : List Lit) (hL : ∀ kl, (f kl).isSome = true → kl ∈ L) : ∃ D, w.ownsMap P k rawE m L.length D ∧ View D f := by
  obtain ⟨D, h1, h2⟩ := h
  refine ⟨D, h1.mono ?_, h2⟩
  obtain ⟨es, rfl, h3, h4⟩ := h1.entries K
  refine size_le_keys es L h3 fun p hp => hL _ ?_
  rw [← (h2 p.1).1]
  exact List.any_eq_true.2 ⟨p, hp, WideAt.sameKey_self (h4 p hp)⟩
theorem View.put {D : DataW Value} (h : View D f) (hD : IsMap D) {kl : Lit} (hk : WideAt.IsKeyLit kl) (v : Value) : View (D.put kl (.held v)) (upd f kl v) := by
  intro z
  unfold upd
  by_cases e : z = kl
  · subst e
    rw [WideAt.sameKey_self hk, if_pos rfl]
    refine ⟨has_put_same hD hk _, fun u hu zd => ?_⟩
    injection hu with hu
    subst hu
    exact atKey_put_same hD hk _ _
  · rw [sameKey_ne e]
    simp only [Bool.false_eq_true, if_false]
    refine ⟨(has_put_other e _).trans (h z).1, fun u hu zd => ?_⟩
    rw [atKey_put_other e]
    exact (h z).2 u hu zd
/-- m[key]. -/
theorem Mp.look {t e : TypeId} (h : Mp P k w m f) (K : Keyed P k) (ht : P.underlying t = some (.map k e)) {z : Value} (hz : (zeroValue e).run P w = .ok z w) {key : Value} {kl : Lit} (hkey : keyOf P k key = some kl) :
    (Instr.lookup t (.map (some m)) key false).run P w = .ok ((f kl).getD z) w := by
  obtain ⟨D, h1, h2⟩ := h
  obtain ⟨v, ps, hrun, hv⟩ := h1.lookup K ht hz (zd := .held z) (zp := []) rfl hkey
  have e1 : DataW.held v = D.atKey kl (.held z) := by
    have := congrArg (fun o => o.map Prod.fst) hv
    simpa [rawE] using this
  cases hf : f kl with
  | none =>
    have := (h2 kl).1
    rw [hf] at this
    rw [atKey_of_not_has this] at e1
    injection e1 with e1
    rw [hrun, e1]
    rfl
  | some u =>
    rw [(h2 kl).2 u hf] at e1
    injection e1 with e1
    rw [hrun, e1]
    rfl
theorem Mp.look_ok {t e : TypeId} (h : Mp P k w m f) (K : Keyed P k) (ht : P.underlying t = some (.map k e)) {z : Value} (hz : (zeroValue e).run P w = .ok z w) {key : Value} {kl : Lit} (hkey : keyOf P k key = some kl) :
    (Instr.lookup t (.map (some m)) key true).run P w = .ok (.tuple #[(f kl).getD z, .bool (f kl).isSome]) w := by
  obtain ⟨D, h1, h2⟩ := h
  obtain ⟨v, ps, hrun, hv⟩ := h1.look_ok K ht hz (zd := .held z) (zp := []) rfl hkey
  have e1 : DataW.held v = D.atKey kl (.held z) := by
    have := congrArg (fun o => o.map Prod.fst) hv
    simpa [rawE] using this
  rw [(h2 kl).1] at hrun
  cases hf : f kl with
  | none =>
    have := (h2 kl).1
    rw [hf] at this
    rw [atKey_of_not_has this] at e1
    injection e1 with e1
    rw [hrun, e1, hf]
    rfl
  | some u =>
    rw [(h2 kl).2 u hf] at e1
    injection e1 with e1
    rw [hrun, e1, hf]
    rfl
/-- m[key] = v. -/
theorem Mp.store {t e : TypeId} (h : Mp P k w m f) (K : Keyed P k) (ht : P.underlying t = some (.map k e)) (L : List Lit) (hL : ∀ kl, (f kl).isSome = true → kl ∈ L) (hn : L.length < maxLen) {key v : Value} {kl : Lit} (hkey : keyOf P k key = some kl) :
    ∃ w', (Instr.mapUpdate t (.map (some m)) key v).run P w = .ok () w' ∧ Mp P k w' m (upd f kl v) ∧ w.mapTurned w' m := by
  obtain ⟨D, h1, h2⟩ := h.size_le K L hL
  obtain ⟨w', hrun, h3, h4⟩ := h1.store K ht hn (d := .held v) (ps := []) hkey rfl
  refine ⟨w', hrun, ⟨_, ?_, h2.put h1.isMap (K.key hkey) v⟩, h4⟩
  obtain ⟨es, clock, e1, e2, e3, e4⟩ := h3
  refine ⟨es, clock, e1, e2, ?_, e4⟩
  rw [e4]
  simp [Maps.size, length_sorted]
/-- clear(m). -/
theorem Mp.clear {t e : TypeId} (h : Mp P k w m f) (ht : P.underlying t = some (.map k e)) (ty : TypeId) :
    ∃ w', (Builtin.clear_ #[t] ty #[.map (some m)]).run P w = .ok (.tuple #[]) w' ∧ Mp P k w' m (fun _ => none) ∧ w.mapTurned w' m := by
  obtain ⟨D, ⟨es, clock, hb, _⟩, _⟩ := h
  refine ⟨setBlock w m (.map #[] clock), by simp [Builtin.clear_, run_underlying ht, MapKept.run_getObj_map hb, MapKept.run_setObj_map _ hb, Result.andThen, setBlock], ⟨.map [], ⟨#[], clock, heap_setBlock_same hb _, ⟨by simp, ?_, by simp⟩, Nat.le_refl _, rfl⟩, fun kl => ⟨rfl, fun v h => by cases h⟩⟩, ⟨es, clock, #[], clock, hb, rfl⟩⟩
  exact stamped_empty clock

theorem Mp.clone (h : Mp P k w m f) {es : Array MapEntry} {clock : Nat} (hb : w.heap[m]? = some (.map es clock)) : Mp P k (w.alloc (.map es clock)) w.heap.size f := by
  obtain ⟨D, ⟨es', clock', h1, h2⟩, h3⟩ := h
  rw [hb] at h1
  cases h1
  exact ⟨D, ⟨es, clock, (MapKept.heap_alloc w _).1, h2⟩, h3⟩

/-- A range over the map is under way. -/
def Rg (P : Program) (k : TypeId) (w : World) (m r : Nat) (f : Lit → Option Value) (left : Lit → Bool) (cnt : Nat) : Prop := ∃ D, w.ranges P k rawE m r (Maps.size D) D left cnt ∧ View D f
theorem Rg.same {r cnt : Nat} {left : Lit → Bool} (h : Rg P k w m r f left cnt) (hb : w'.heap[m]? = w.heap[m]?) (hr : w'.heap[r]? = w.heap[r]?) : Rg P k w' m r f left cnt := by
  obtain ⟨D, ⟨es, clock, since, seen, c0, h1, h2, h3, h4, h5, h6⟩, hv⟩ := h
  exact ⟨D, ⟨es, clock, since, seen, c0, hb.trans h1, h2, h3, h4, hr.trans h5, h6⟩, hv⟩
theorem Rg.lt {r cnt : Nat} {left : Lit → Bool} (h : Rg P k w m r f left cnt) : r < w.heap.size := by obtain ⟨D, h, _⟩ := h; exact h.lt
theorem Rg.ne {r cnt : Nat} {left : Lit → Bool} (h : Rg P k w m r f left cnt) : r ≠ m := by obtain ⟨D, h, _⟩ := h; exact h.ne
theorem Rg.mp {r cnt : Nat} {left : Lit → Bool} (h : Rg P k w m r f left cnt) : Mp P k w m f := by obtain ⟨D, h, hv⟩ := h; exact ⟨D, h.owns, hv⟩
theorem Rg.grows {r cnt : Nat} {left : Lit → Bool} (h : Rg P k w m r f left cnt) (hg : Grows w w') : Rg P k w' m r f left cnt := h.same (hg.block m h.mp.lt) (hg.block r h.lt)
end

section
variable {P : Program} (w : World) {ops : Array Oper} {rest : List Oper} {o : Oper} {a : Act} {Q : Exit → Act → World → Prop}
/-- m[key] at the operation. -/
theorem wpList_lookup_mp (hg : o.guard = none) (x y : Operand) (t : TypeId) (hop : o.op = Op.lookup t x y false) (k e : TypeId) (K : Keyed P k) (ht : P.underlying t = some (.map k e)) {z : Value} (hz : (zeroValue e).run P w = .ok z w) (m : Nat) (f : Lit → Option Value)
    (hm : a.eval x = .map (some m)) (h : Mp P k w m f) (key : Value) (kl : Lit) (hy : a.eval y = key) (hkey : keyOf P k key = some kl) (u : Value) (hu : (f kl).getD z = u)
    (hK : wpList P ops Q rest (a.put o.dst u) w) : wpList P ops Q (o :: rest) a w := by
  refine wpList_plain hg fun K' hK' => ?_
  have hrun := h.look K ht hz hkey
  rw [hu] at hrun
  unfold Oper.wp
  simp [execOp, hop, hm, hy, hrun, Result.andThen]
  exact hK' _ _ hK
theorem wpList_mapUpdate_mp (hg : o.guard = none) (x y v : Operand) (t : TypeId) (hop : o.op = Op.mapUpdate t x y v) (k e : TypeId) (K : Keyed P k) (ht : P.underlying t = some (.map k e)) (m : Nat) (f : Lit → Option Value)
    (hm : a.eval x = .map (some m)) (h : Mp P k w m f) (L : List Lit) (hL : ∀ kl, (f kl).isSome = true → kl ∈ L) (hn : L.length < maxLen) (key val : Value) (kl : Lit) (hy : a.eval y = key) (hv : a.eval v = val) (hkey : keyOf P k key = some kl)
    (hK : ∀ w', Mp P k w' m (upd f kl val) → w.mapTurned w' m → wpList P ops Q rest (a.put o.dst undef) w') : wpList P ops Q (o :: rest) a w := by
  refine wpList_plain hg fun K' hK' => ?_
  obtain ⟨w', hrun, r1, r2⟩ := h.store K ht L hL hn (v := val) hkey
  unfold Oper.wp
  simp [execOp, hop, hm, hy, hv, hrun, Result.andThen]
  exact hK' _ _ (hK w' r1 r2)
/-- m[key] = v as a step of a region that draws its order. -/
theorem step_mapUpdate_mp {K' : Act → World → Prop} {E : Prop} (hg : o.guard = none) (x y v : Operand) (t : TypeId) (hop : o.op = Op.mapUpdate t x y v) (k e : TypeId) (K : Keyed P k) (ht : P.underlying t = some (.map k e)) (m : Nat) (f : Lit → Option Value)
    (hm : a.eval x = .map (some m)) (h : Mp P k w m f) (L : List Lit) (hL : ∀ kl, (f kl).isSome = true → kl ∈ L) (hn : L.length < maxLen) (key val : Value) (kl : Lit) (hy : a.eval y = key) (hv : a.eval v = val) (hkey : keyOf P k key = some kl)
    (hK : ∀ w', Mp P k w' m (upd f kl val) → w.mapTurned w' m → K' (a.put o.dst undef) w') : if Region.wanted o (yielded ops a.tmps) = true then Oper.wp P o a w K' Q else E := by
  have hw : Region.wanted o (yielded ops a.tmps) = true := by simp [Region.wanted, hg]
  rw [if_pos hw]
  obtain ⟨w', hrun, r1, r2⟩ := h.store K ht L hL hn (v := val) hkey
  unfold Oper.wp
  simp [execOp, hop, hm, hy, hv, hrun, Result.andThen]
  exact hK w' r1 r2
theorem wpList_clear_mp (hg : o.guard = none) (x : Operand) (t : TypeId) (hop : o.op = Op.call { callee := Callee.builtin Builtin.clear, args := #[x], argTypes := #[t] }) (k e : TypeId) (ht : P.underlying t = some (.map k e)) (m : Nat) (f : Lit → Option Value)
    (hm : a.eval x = .map (some m)) (h : Mp P k w m f) (hK : ∀ w', Mp P k w' m (fun _ => none) → w.mapTurned w' m → wpList P ops Q rest (a.put o.dst (.tuple #[])) w') : wpList P ops Q (o :: rest) a w := by
  refine wpList_plain hg fun K' hK' => ?_
  obtain ⟨w', hrun, r1, r2⟩ := h.clear ht o.type
  unfold Oper.wp
  simp [execOp, hop, resolve, invoke, builtin, hm, hrun, Result.andThen]
  exact hK' _ _ (hK w' r1 r2)
theorem wpList_range_mp (hg : o.guard = none) (x : Operand) (t : TypeId) (hop : o.op = Op.range t x) (k e : TypeId) (K : Keyed P k) (ht : P.underlying t = some (.map k e)) (m : Nat) (f : Lit → Option Value)
    (hm : a.eval x = .map (some m)) (h : Mp P k w m f) (hK : ∀ w' cnt, Rg P k w' m w.heap.size f (fun kl => (f kl).isSome) cnt → Grows w w' → w'.heap.size = w.heap.size + 1 → wpList P ops Q rest (a.put o.dst (.pointer (some ⟨w.heap.size, 0, none⟩))) w') :
    wpList P ops Q (o :: rest) a w := by
  obtain ⟨D, h1, h2⟩ := h
  refine wpList_range_own w hg x t hop k e K ht rawE m _ D hm h1 fun w' r1 r2 r3 => hK w' (Maps.size D) ⟨D, ?_, h2⟩ ((Grows.refl w).grown r2 (fun _ h => by cases h)) r3
  rwa [show Maps.has D = fun kl => (f kl).isSome from funext fun kl => (h2 kl).1] at r1
theorem wpList_next_mp {α : Type} (hg : o.guard = none) (it : Operand) (hop : o.op = Op.next it false) (k : TypeId) (K : Keyed P k) (mkK : α → Value) (invK : ∀ key kl, keyOf P k key = some kl → ∃ x, key = mkK x) (m r : Nat) (f : Lit → Option Value) (left : Lit → Bool) (cnt : Nat)
    (hit : a.eval it = .pointer (some ⟨r, 0, none⟩)) (h : Rg P k w m r f left cnt)
    (hDone : (∀ kl, left kl = false) → wpList P ops Q rest (a.put o.dst (.tuple #[.bool false])) w)
    (hMore : ∀ (x : α) (v : Value) (kl : Lit) (w' : World) (cnt' : Nat), keyOf P k (mkK x) = some kl → left kl = true → f kl = some v → Rg P k w' m r f (fun z => left z && !z.sameKey kl) cnt' → cnt' < cnt →
      w.grownBy w' (some r) → w'.heap.size = w.heap.size → (Instr.entry (.pointer (some ⟨r, 0, none⟩))).run P w' = .ok (.tuple #[mkK x, v]) w' → wpList P ops Q rest (a.put o.dst (.tuple #[.bool true, mkK x, v])) w') :
    wpList P ops Q (o :: rest) a w := by
  obtain ⟨D, h1, h2⟩ := h
  refine wpList_next_ranges w hg it hop k K rawE mkK (fun v : Value => v) invK (fun v _ _ => ⟨v, rfl⟩) m r _ D left cnt hit h1 (fun _ hl => hDone hl) fun x c kl y w' cnt' hkey hlk hv hat hrg hlt hgr hsz hen => ?_
  refine hMore x c kl w' cnt' hkey hlk ?_ ⟨D, hrg, h2⟩ hlt hgr hsz hen
  have e1 : y.1 = .held c := by
    have := congrArg (fun o => o.map Prod.fst) hv
    simpa [rawE] using this.symm
  have hh := has_true_of_atKey hat
  rw [(h2 kl).1] at hh
  obtain ⟨u, hu⟩ := Option.isSome_iff_exists.1 hh
  have e2 := (h2 kl).2 u hu (.held c)
  rw [hat, e1] at e2
  injection e2 with e2
  rw [hu, e2]
theorem wpList_next_mp2 {α : Type} (hg : o.guard = none) (it : Operand) (hop : o.op = Op.next it false) (k : TypeId) (K : Keyed P k) (mkK mkV : α → Value) (lit : α → Lit) (G : α → Prop) (m r : Nat) (f : Lit → Option Value) (left : Lit → Bool) (cnt : Nat)
    (shape : ∀ key kl v, keyOf P k key = some kl → f kl = some v → ∃ x, key = mkK x ∧ v = mkV x ∧ kl = lit x ∧ G x)
    (hit : a.eval it = .pointer (some ⟨r, 0, none⟩)) (h : Rg P k w m r f left cnt)
    (hDone : (∀ kl, left kl = false) → wpList P ops Q rest (a.put o.dst (.tuple #[.bool false])) w)
    (hMore : ∀ (x : α) (w' : World) (cnt' : Nat), G x → left (lit x) = true → Rg P k w' m r f (fun z => left z && !z.sameKey (lit x)) cnt' → cnt' < cnt →
      w.grownBy w' (some r) → w'.heap.size = w.heap.size → (Instr.entry (.pointer (some ⟨r, 0, none⟩))).run P w' = .ok (.tuple #[mkK x, mkV x]) w' → wpList P ops Q rest (a.put o.dst (.tuple #[.bool true, mkK x, mkV x])) w') :
    wpList P ops Q (o :: rest) a w :=
  wpList_next_mp w hg it hop k K (fun v : Value => v) (fun key _ _ => ⟨key, rfl⟩) m r f left cnt hit h hDone fun key v kl w' cnt' hkey hlk hf hrg hlt hgr hsz hen => by
    obtain ⟨x, rfl, rfl, rfl, hG⟩ := shape key kl v hkey hf
    exact hMore x w' cnt' hG hlk hrg hlt hgr hsz hen
end
end Go.Proofs.Ytfigoeoimefngaa

/-
  m[key] = f(m[key], ..): the entry, then the store into it.
-/
namespace Go.Proofs.Ytfigoeoimefngaa
open Go.RowKit Go.Maps Go.ChangeMaps Go.MapKept Go.WideElems
open Go.WideMaps (KeyLaw)

section
variable {P : Program} {k : TypeId} {w : World} {m : Nat} {f : Lit → Option Value}
/-- The entry's element; what the store into the entry leaves, in whatever world the map's block lies as the entry left it. -/
theorem Mp.entry {t e : TypeId} (h : Mp P k w m f) (K : KeyLaw P k) (ht : P.underlying t = some (.map k e)) {z : Value} (hz : ∀ u : World, (zeroValue e).run P u = .ok z u) (L : List Lit) (hL : ∀ kl, (f kl).isSome = true → kl ∈ L) (hn : L.length < maxLen) {key : Value} {kl : Lit} (hkey : keyOf P k key = some kl) :
    ∃ (st : Value) (o : Obj), (Instr.mapEntry t (.map (some m)) key).run P w = .ok (.tuple #[(f kl).getD z, st]) (setBlock w m o) ∧
      ∀ (w2 : World) (val : Value), w2.heap[m]? = some o → ∃ o', (Instr.entryStore t (.map (some m)) st val).run P w2 = .ok () (setBlock w2 m o') ∧ Mp P k (setBlock w2 m o') m (upd f kl val) := by
  have hlook := h.look (Keyed.of_law K) ht (hz w) hkey
  have hst := fun val => h.store (Keyed.of_law K) ht L hL hn (v := val) hkey
  obtain ⟨D, ⟨es, clock, hb, F, _⟩, _⟩ := h
  obtain ⟨v0, st, es1, c1, hrun, hv, hs⟩ := entry_then_store K ht hz hb F hkey
  refine ⟨goInt st, .map es1 c1, ?_, fun w2 val hw2 => ?_⟩
  · have : (f kl).getD z = v0 := by
      rcases K.find w hkey es.toList F.keys with ⟨h1, h2⟩ | ⟨j, e0, h1, h2, h3⟩
      · have e1 : (Instr.lookup t (.map (some m)) key false).run P w = .ok z w := by
          simp [Instr.lookup, run_underlying ht, MapKept.run_getObj_map hb, K.check w es.isEmpty hkey, h1, hz, Result.andThen]
        rw [hlook] at e1
        injection e1 with e1
        rcases hv with ⟨e0, he0, h3, _⟩ | ⟨_, h4⟩
        · exact absurd h3 (h2 e0 he0)
        · rw [e1, h4]
      · have e1 : (Instr.lookup t (.map (some m)) key false).run P w = .ok e0.val w := by
          simp [Instr.lookup, run_underlying ht, MapKept.run_getObj_map hb, K.check w es.isEmpty hkey, h1, Result.andThen]
        rw [hlook] at e1
        injection e1 with e1
        have hj : es[j]? = some e0 := by simpa using h2
        have e2 : (Instr.mapEntry t (.map (some m)) key).run P w = .ok (.tuple #[e0.val, goInt e0.born]) (setBlock w m (.map (es.modify j (fun e => { e with key := key })) clock)) := by
          simp [Instr.mapEntry, run_underlying ht, MapKept.run_getObj_map hb, K.check w false hkey, h1, hj, h3, K.stays w hkey, MapKept.run_setObj_map _ hb, Result.andThen, setBlock]
        rw [hrun] at e2
        injection e2 with e2 _
        injection e2 with e2
        have e3 := congrArg (fun a : Array Value => a[0]?) e2
        simp at e3
        rw [e1, ← e3]
    rw [this]
    exact hrun
  · obtain ⟨es', c', h1, h2⟩ := hs w2 val hw2
    obtain ⟨w', h3, h4, _⟩ := hst val
    rw [h3] at h2
    injection h2 with _ h2
    subst h2
    refine ⟨.map es' c', h1, h4.same ?_⟩
    have e1 : (setBlock w2 m (.map es' c')).heap[m]? = some (.map es' c') := heap_setBlock_same hw2 _
    have e2 : (setBlock w m (.map es' c')).heap[m]? = some (.map es' c') := heap_setBlock_same hb _
    rw [e1, e2]
end
end Go.Proofs.Ytfigoeoimefngaa

/-
  append onto a row of the call's own, from whatever source (nil, empty, or not), and onto a full slice of whoever's.
-/
namespace Go.Proofs.Ytfigoeoimefngaa
open Go.RowKit
section
variable {P : Program} (w : World)

theorem run_append_nil (base : Nat) (t ty e : TypeId) (i : TypeInfo) (size : Nat) (ht : P.underlying t = some (.slice e)) (hi : P.info? e = some i)
    (v : Value) (n : Nat) (xs : List Value) (hown : w.ownsRow base e size v n xs) (c : Nat) : (Builtin.append_ #[t, t] ty #[v, .slice none 0 c]).run P w = .ok v w := by
  rcases hown.2 with ⟨rfl, rfl⟩ | ⟨g, cap, cur, rfl, _, _, hnc, _⟩
  · simp [Builtin.append_, run_underlying ht, sizeOf, typeInfo, hi, Builtin.lenOf, Builtin.firstCells]
  · simp [Builtin.append_, run_underlying ht, sizeOf, typeInfo, hi, Builtin.lenOf, Builtin.firstCells, hnc, storeCells]

theorem run_append_rd (base : Nat) (t ty e : TypeId) (i : TypeInfo) (z : Value) (size bytes : Nat) (ht : P.underlying t = some (.slice e)) (hi : P.info? e = some i) (hz : i.zero = some z)
    (hsize : i.size = size) (hby : i.bytes = bytes) (hzs : z.cells.size = size) (hsz : 0 < size)
    (v : Value) (n : Nat) (xs : List Value) (hown : w.ownsRow base e size v n xs)
    (A : Option Addr) (m c : Nat) (news : List Value) (hr : Rd w A news) (hm : news.length = m * size) (h1 : ∀ u ∈ news, u.oneCell' = true)
    (h63 : n + m ≤ maxLen) (hbytes : (n + m) * bytes ≤ 140737488355328) (hbase : base ≤ w.heap.size) :
    ∃ v' w', (Builtin.append_ #[t, t] ty #[v, .slice A m c]).run P w = .ok v' w' ∧ w'.ownsRow base e size v' (n + m) (xs ++ news) ∧ w.grownBy w' v.ownBlock ∧
      (v'.ownBlock = v.ownBlock ∨ v'.ownBlock = some w.heap.size) := by
  rcases A with _ | ad
  · have hn : news = [] := by
      rcases hr with h | ⟨b, off, h, _⟩
      · exact h
      · cases h
    subst hn
    have hm0 : m = 0 := by
      rcases Nat.eq_zero_or_pos m with h0 | h0
      · exact h0
      · have := Nat.mul_pos h0 hsz
        simp at hm
        omega
    subst hm0
    exact ⟨v, w, run_append_nil w base t ty e i size ht hi v n xs hown c, by simpa using hown, World.grownBy.refl w _, .inl rfl⟩
  · have hcells : ∀ j u, news[j]? = some u → w.cell? (ad.add j) = some u := by
      intro j u hu
      rcases hr with h | ⟨b, off, h, _, hc⟩
      · subst h; simp at hu
      · injection h with h
        subst h
        have := hc j u hu
        rw [← this]
        congr 1
        simp only [Addr.add]
        split <;> simp_all
    obtain ⟨v', w', hrun, h2, h3, _, h5⟩ := run_append_own_at (P := P) w base t ty e i z size bytes ht hi hz hsize hby hzs hsz v n xs hown ad m c news hm hcells h1 h63 hbytes hbase
    exact ⟨v', w', hrun, h2, h3, h5⟩

theorem wp_append_rd {o : Oper} {a : Act} {K : Act → World → Prop} {Q : Exit → Act → World → Prop} (s x : Operand) (t : TypeId)
    (ho : o.op = .call { callee := .builtin .append, args := #[s, x], argTypes := #[t, t] })
    (base : Nat) (e : TypeId) (i : TypeInfo) (z : Value) (size bytes : Nat) (ht : P.underlying t = some (.slice e)) (hi : P.info? e = some i) (hz : i.zero = some z)
    (hsize : i.size = size) (hby : i.bytes = bytes) (hzs : z.cells.size = size) (hsz : 0 < size)
    (v : Value) (n : Nat) (xs : List Value) (hs : a.eval s = v) (hown : w.ownsRow base e size v n xs)
    (A : Option Addr) (m c : Nat) (news : List Value) (hx : a.eval x = .slice A m c) (hr : Rd w A news) (hm : news.length = m * size) (h1 : ∀ u ∈ news, u.oneCell' = true)
    (h63 : n + m ≤ maxLen) (hbytes : (n + m) * bytes ≤ 140737488355328) (hbase : base ≤ w.heap.size)
    (h : ∀ v' w', w'.ownsRow base e size v' (n + m) (xs ++ news) → w.grownBy w' v.ownBlock → (v'.ownBlock = v.ownBlock ∨ v'.ownBlock = some w.heap.size) → K (a.put o.dst v') w') : o.wp P a w K Q := by
  obtain ⟨v', w', hrun, h2, h3, h4⟩ := run_append_rd (P := P) w base t o.type e i z size bytes ht hi hz hsize hby hzs hsz v n xs hown A m c news hr hm h1 h63 hbytes hbase
  unfold Oper.wp execOp
  simp only [ho, resolve, invoke, builtin, Sem.run_bind, Sem.run_pure, Result.andThen_ok, List.map_toArray, List.map_cons, List.map_nil, hs, hx, hrun]
  exact h v' w' h2 h3 h4

theorem wpList_append_rd {ops : Array Oper} {rest : List Oper} {o : Oper} {a : Act} {Q : Exit → Act → World → Prop} (hgd : o.guard = none) (s x : Operand) (t : TypeId)
    (ho : o.op = .call { callee := .builtin .append, args := #[s, x], argTypes := #[t, t] })
    (base : Nat) (e : TypeId) (i : TypeInfo) (z : Value) (size bytes : Nat) (ht : P.underlying t = some (.slice e)) (hi : P.info? e = some i) (hz : i.zero = some z)
    (hsize : i.size = size) (hby : i.bytes = bytes) (hzs : z.cells.size = size) (hsz : 0 < size)
    (v : Value) (n : Nat) (xs : List Value) (hs : a.eval s = v) (hown : w.ownsRow base e size v n xs)
    (A : Option Addr) (m c : Nat) (news : List Value) (hx : a.eval x = .slice A m c) (hr : Rd w A news) (hm : news.length = m * size) (h1 : ∀ u ∈ news, u.oneCell' = true)
    (h63 : n + m ≤ maxLen) (hbytes : (n + m) * bytes ≤ 140737488355328) (hbase : base ≤ w.heap.size)
    (h : ∀ v' w', w'.ownsRow base e size v' (n + m) (xs ++ news) → w.grownBy w' v.ownBlock → (v'.ownBlock = v.ownBlock ∨ v'.ownBlock = some w.heap.size) → wpList P ops Q rest (a.put o.dst v') w') : wpList P ops Q (o :: rest) a w :=
  wpList_plain hgd fun _ hK => wp_append_rd w s x t ho base e i z size bytes ht hi hz hsize hby hzs hsz v n xs hs hown A m c news hx hr hm h1 h63 hbytes hbase fun v' w' h2 h3 h4 => hK _ _ (h v' w' h2 h3 h4)
end

theorem bys_cut (l : List Nat) (lo n : Nat) : bys ((l.drop lo).take n) = ((bys l).drop lo).take n := by
  simp [bys, List.map_take, List.map_drop]
theorem bys_append (a b : List Nat) : bys (a ++ b) = bys a ++ bys b := by simp [bys]
theorem bys_one (l : List Nat) : ∀ u ∈ bys l, u.oneCell' = true := by
  intro u hu
  obtain ⟨x, _, rfl⟩ := List.mem_map.1 hu
  rfl

/-- The cells of a new block, as a source. -/
theorem rd_new (w : World) (cs : Array Value) (t : TypeId) (fr : Nat × Nat) : Rd (w.alloc (.cells cs t fr)) (some ⟨w.heap.size, 0, none⟩) cs.toList := by
  refine .inr ⟨w.heap.size, 0, rfl, by simp, fun i v hv => ?_⟩
  rw [Nat.zero_add, cell_of_row _ _ i cs t fr (heap_alloc_new w _)]
  simpa using hv

theorem rd_adds {w : World} {a : Option Addr} {xs : List Value} (h : Rd w a xs) : ∀ b, a = some b → ∀ j u, xs[j]? = some u → w.cell? (b.add j) = some u := by
  rintro b rfl j u hu
  rcases h with h | ⟨b', off, h, _, hc⟩
  · subst h; simp at hu
  · injection h with h
    subst h
    have := hc j u hu
    rw [← this]
    congr 1
    simp only [Addr.add]
    split <;> simp_all
theorem own_lower {w : World} {base base' : Nat} {e : TypeId} {size n : Nat} {v : Value} {xs : List Value} (h : w.ownsRow base e size v n xs) (hb : base' ≤ base) : w.ownsRow base' e size v n xs := by
  refine ⟨h.1, ?_⟩
  rcases h.2 with h2 | ⟨g, cap, cur, h1, h2, h3⟩
  · exact .inl h2
  · exact .inr ⟨g, cap, cur, h1, by omega, h3⟩
/-- An owned row that is not empty begins at the head of a block. -/
theorem own_form {w : World} {base : Nat} {e : TypeId} {size n : Nat} {v : Value} {xs : List Value} (h : w.ownsRow base e size v n xs) (hn : 0 < n) : ∃ g cap, v = .slice (some ⟨g, 0, none⟩) n cap ∧ base ≤ g ∧ g < w.heap.size := by
  rcases h.2 with ⟨_, h2⟩ | ⟨g, cap, cur, h1, h2, h3, _⟩
  · omega
  · exact ⟨g, cap, h1, h2, (Array.getElem?_eq_some_iff.1 h3).1⟩
theorem own_slice {w : World} {base : Nat} {e : TypeId} {size n : Nat} {v : Value} {xs : List Value} (h : w.ownsRow base e size v n xs) : ∃ a cap, v = .slice a n cap ∧ n ≤ cap ∧ (a = none → n = 0 ∧ cap = 0) ∧ cap ≤ maxLen := by
  rcases h.2 with ⟨h1, h2⟩ | ⟨g, cap, cur, h1, h2, h3, h4, h5, _⟩
  · subst h2; exact ⟨none, 0, h1, Nat.le_refl _, fun _ => ⟨rfl, rfl⟩, Nat.zero_le _⟩
  · exact ⟨_, cap, h1, h4, (fun h => by cases h), h5⟩
theorem own_cap {w : World} {base : Nat} {e : TypeId} {size n cap : Nat} {a : Option Addr} {xs : List Value} (h : w.ownsRow base e size (.slice a n cap) n xs) : n ≤ cap ∧ (a = none → n = 0 ∧ cap = 0) := by
  obtain ⟨a', c', h1, h2, h3, _⟩ := own_slice h
  injection h1 with e1 e2 e3
  subst e1
  subst e3
  exact ⟨h2, h3⟩
theorem own_grows {w w' : World} {base : Nat} {e : TypeId} {size n : Nat} {v : Value} {xs : List Value} (h : w.ownsRow base e size v n xs) (hg : Grows w w') : w'.ownsRow base e size v n xs := by
  refine ⟨h.1, ?_⟩
  rcases h.2 with h2 | ⟨g, cap, cur, h1, h2, h3, h4⟩
  · exact .inl h2
  · exact .inr ⟨g, cap, cur, h1, h2, (hg.block g (Array.getElem?_eq_some_iff.1 h3).1).trans h3, h4⟩

/-- A new row: a slice that the call hands back, all of it new. -/
def New (w : World) (t : TypeId) (size n : Nat) (xs : List Value) (v : Value) (w' : World) : Prop := w'.ownsRow w.heap.size t size v n xs ∧ Grows w w'
theorem New.rd {w w' : World} {t : TypeId} {size n cap : Nat} {xs : List Value} {a : Option Addr} (h : New w t size n xs (.slice a n cap) w') : Rd w' a xs := Rd.own h.1

end Go.Proofs.Ytfigoeoimefngaa

/-
  append onto a full slice, as one step of a region that draws its order.
-/
namespace Go.Proofs.Ytfigoeoimefngaa
open Go.RowKit

theorem step_append_grows {P : Program} {w : World} {ops : Array Oper} {o : Oper} {a : Act} {K : Act → World → Prop} {Q : Exit → Act → World → Prop} {E : Prop}
    (hgd : o.guard = none) (s x : Operand) (t : TypeId) (hop : o.op = Op.call { callee := Callee.builtin Builtin.append, args := #[s, x], argTypes := #[t, t] })
    (e : TypeId) (i : TypeInfo) (z : Value) (size bytes : Nat) (h1 : P.underlying t = some (.slice e)) (h2 : P.info? e = some i) (h3 : i.zero = some z) (h4 : i.size = size) (h5 : i.bytes = bytes) (h6 : z.cells.size = size) (h7 : 0 < size)
    (ao : Option Addr) (n cap : Nat) (olds : List Value) (hs : a.eval s = .slice ao n cap) (hnone : ao = none → n = 0 ∧ cap = 0) (hlo : olds.length = n * size) (hr : Rd w ao olds)
    (ad : Addr) (m c : Nat) (news : List Value) (hx : a.eval x = .slice (some ad) m c) (hn : news.length = m * size) (hr2 : Rd w (some ad) news) (h1c : ∀ u ∈ news, u.oneCell' = true)
    (hfull : cap < n + m) (b1 : n + m ≤ maxLen) (b2 : (n + m) * bytes ≤ 140737488355328)
    (hK : ∀ v' w', w'.ownsRow w.heap.size e size v' (n + m) (olds ++ news) → w.grownBy w' none → K (a.put o.dst v') w') :
    if Region.wanted o (yielded ops a.tmps) = true then Oper.wp P o a w K Q else E := by
  have hw : Region.wanted o (yielded ops a.tmps) = true := by simp [Region.wanted, hgd]
  rw [if_pos hw]
  have holds := rd_adds hr
  have hc := rd_adds hr2 ad rfl
  cases ao with
  | some b =>
    obtain ⟨v', w', hrun, r1, r2⟩ := run_append_arg_grows (P := P) w t o.type e i z size bytes h1 h2 h3 h4 h5 h6 h7 b n cap olds hlo (holds b rfl) ad m c news hn hc hfull b1 b2
    unfold Oper.wp
    simp [execOp, hop, resolve, invoke, builtin, hs, hx, hrun, Result.andThen]
    exact hK v' w' r1 r2
  | none =>
    obtain ⟨rfl, rfl⟩ := hnone rfl
    obtain rfl : olds = [] := List.eq_nil_of_length_eq_zero (by simpa using hlo)
    obtain ⟨v', w', hrun, r1, r2, _⟩ := run_append_own (P := P) w w.heap.size t o.type e i z size bytes h1 h2 h3 h4 h5 h6 h7 (.slice none 0 0) 0 [] (World.ownsRow_nil w _ e size) ad m c news hn hc h1c b1 b2 (Nat.le_refl _)
    unfold Oper.wp
    simp [execOp, hop, resolve, invoke, builtin, hs, hx, hrun, Result.andThen]
    exact hK v' w' r1 r2

/-- append onto a row of the call's own, as one step of a region that draws its order. -/
theorem step_append_rd {P : Program} {w : World} {ops : Array Oper} {o : Oper} {a : Act} {K : Act → World → Prop} {Q : Exit → Act → World → Prop} {E : Prop}
    (hgd : o.guard = none) (s x : Operand) (t : TypeId) (hop : o.op = Op.call { callee := Callee.builtin Builtin.append, args := #[s, x], argTypes := #[t, t] })
    (base : Nat) (e : TypeId) (i : TypeInfo) (z : Value) (size bytes : Nat) (h1 : P.underlying t = some (.slice e)) (h2 : P.info? e = some i) (h3 : i.zero = some z) (h4 : i.size = size) (h5 : i.bytes = bytes) (h6 : z.cells.size = size) (h7 : 0 < size)
    (v : Value) (n : Nat) (xs : List Value) (hs : a.eval s = v) (hown : w.ownsRow base e size v n xs)
    (A : Option Addr) (m c : Nat) (news : List Value) (hx : a.eval x = .slice A m c) (hr : Rd w A news) (hm : news.length = m * size) (h1c : ∀ u ∈ news, u.oneCell' = true)
    (b1 : n + m ≤ maxLen) (b2 : (n + m) * bytes ≤ 140737488355328) (b3 : base ≤ w.heap.size)
    (hK : ∀ v' w', w'.ownsRow base e size v' (n + m) (xs ++ news) → w.grownBy w' v.ownBlock → (v'.ownBlock = v.ownBlock ∨ v'.ownBlock = some w.heap.size) → K (a.put o.dst v') w') :
    if Region.wanted o (yielded ops a.tmps) = true then Oper.wp P o a w K Q else E := by
  have hw : Region.wanted o (yielded ops a.tmps) = true := by simp [Region.wanted, hgd]
  rw [if_pos hw]
  exact wp_append_rd w s x t hop base e i z size bytes h1 h2 h3 h4 h5 h6 h7 v n xs hs hown A m c news hx hr hm h1c b1 b2 b3 hK
theorem rd_take {w : World} {a : Option Addr} {xs : List Value} (h : Rd w a xs) (n : Nat) : Rd w a (xs.take n) := by
  rcases h with h | ⟨b, off, e, hb, hc⟩
  · exact .inl (by simp [h])
  · refine .inr ⟨b, off, e, hb, fun i v hv => hc i v ?_⟩
    rw [List.getElem?_take] at hv
    split at hv
    · exact hv
    · cases hv
end Go.Proofs.Ytfigoeoimefngaa

/-
  Owned rows: an empty one that was built; a post for a slice that is handed back.
-/
namespace Go.Proofs.Ytfigoeoimefngaa
open Go.RowKit

theorem own_empty (w : World) (e : TypeId) (size : Nat) : (w.alloc (.cells #[] e)).ownsRow w.heap.size e size (.slice (some ⟨w.heap.size, 0, none⟩) 0 0) 0 [] :=
  ⟨by simp, .inr ⟨w.heap.size, 0, #[], rfl, Nat.le_refl _, heap_alloc_new w _, Nat.le_refl _, Nat.zero_le _, by simp, by simp⟩⟩
/-- The call hands back a new slice that reads as xs. -/
def RetNew (w : World) (t : TypeId) (size n : Nat) (xs : List Value) (e : Ending) (w' : World) : Prop := ∃ v, e = .returned v ∧ New w t size n xs v w'
end Go.Proofs.Ytfigoeoimefngaa

/-
  A range over a function, the body never left early: the statement, and one round.
-/
namespace Go.Proofs.Ytfigoeoimefngaa
open Go.RowKit Go.Shelf

/-- The loop's record. -/
def rcd (fn : FuncId) (tmps : Array Value) (ps : Array Tmp) (assign body : Code) (D : Nat) (st : LoopState) : Loop := { state := st, pending := none, fn, tmps, params := ps, assign, body, defers := D }

theorem wpIn_rf {P : Program} {n : Nat} {g : Operand} {ps : Array Tmp} {assign body : Code} {Q : Exit → Act → World → Prop} {a : Act} {w : World} {gf : FuncId} {lb : Array Value} (hg : a.eval g = .func (.func gf) #[] lb) (eg : ∀ args w, (callFunc gf args).run P w = .ok (.enter gf args) w)
    (h : ∀ fn, CallsIn Fence.wide (n - 1) P gf (#[.func (.yield (w.heap.size + 1)) #[] #[]] ++ lb) ((w.alloc (.deferred (some []))).alloc (.loop (rcd fn a.tmps ps assign body w.heap.size .ready))) fun e W =>
      (∃ v, e = .returned v) ∧ W.heap[w.heap.size + 1]? = some (.loop (rcd fn a.tmps ps assign body w.heap.size .ready)) ∧ Q .normal { a with defers := { target := .collected w.heap.size, args := #[] } :: a.defers } (W.putObj (w.heap.size + 1) (.loop (rcd fn a.tmps ps assign body w.heap.size .exhausted)))) :
    (Code.rangeFunc g ps assign body).wpIn Fence.wide n P Q a w := by
  refine wpIn_rangeFunc fun fn _ => ?_
  refine ⟨w.heap.size + 1, [{ target := .collected w.heap.size, args := #[] }], (w.alloc (.deferred (some []))).alloc (.loop (rcd fn a.tmps ps assign body w.heap.size .ready)), { target := .fn (.func gf) lb, args := #[.func (.yield (w.heap.size + 1)) #[] #[]] }, (w.alloc (.deferred (some []))).alloc (.loop (rcd fn a.tmps ps assign body w.heap.size .ready)), gf, _, _, run_enterLoop_outer fn a.tmps ps assign body, ?_, fun _ _ => trivial, ?_, ?_, (h fn).mono ?_⟩
  · simp only [resolve, hg]
    simp [go_sem]
  · simp [invoke, go_sem, eg]
  · intro h; cases h
  · rintro e W ⟨⟨v, rfl⟩, hl, hq⟩
    exact ⟨none, _, run_endLoop (P := P) hl (by simp [rcd]), hq⟩

theorem yield_round {P : Program} {m l : Nat} {W : World} {fn : FuncId} {tmps : Array Value} {ps : Array Tmp} {assign body : Code} {D : Nat} {rc : LoopState → Loop} (hrc : rcd fn tmps ps assign body D = rc) (hl : W.heap[l]? = some (.loop (rc .ready))) (args : Array Value) (hs : args.size = ps.size) (R : Ending → World → Prop)
    (h : assign.wpIn (Fence.wide.inRound l) m P (Exit.then (fun a1 W1 => W1.heap[l]? = some (.loop (rc .ready)) ∧ body.wpIn (Fence.wide.inRound l) m P
      (fun e _ W2 => e = .normal ∧ W2.heap[l]? = some (.loop (rc .busy)) ∧ R (.returned (.bool true)) (W2.putObj l (.loop (rc .ready)))) a1 (W1.putObj l (.loop (rc .busy)))) (fun _ _ _ => False))
      { tmps := (ps.zip args).foldl (fun t (p, v) => t.setIfInBounds p v) tmps, defers := [] } W) : YieldAt Fence.wide m P l args W R := by
  subst hrc
  refine ⟨fn, _, assign, body, run_yield (P := P) hl hs, roundIn_of_wpIn trivial (wpIn_mono h ?_)⟩
  intro e a1 W1 h1
  cases e with
  | normal =>
    obtain ⟨h2, h3⟩ := h1
    refine ⟨_, run_beginRound (P := P) h2 rfl, wpIn_mono h3 ?_⟩
    rintro e a2 W2 ⟨rfl, h4, h5⟩
    exact ⟨_, _, run_endRound (P := P) none h4, h5⟩
  | _ => exact h1
end Go.Proofs.Ytfigoeoimefngaa

/-
  A range over a function whose body may return early: the statement, and one round.
-/
namespace Go.Proofs.Ytfigoeoimefngaa
open Go.RowKit Go.Shelf

/-- The loop's record behind a round that returned. -/
def rcr (fn : FuncId) (tmps : Array Value) (ps : Array Tmp) (assign body : Code) (D : Nat) (st : LoopState) : Loop := { state := st, pending := some .ret, fn, tmps, params := ps, assign, body, defers := D }

theorem wpIn_rfr {P : Program} {n : Nat} {g : Operand} {ps : Array Tmp} {assign body : Code} {Q : Exit → Act → World → Prop} {a : Act} {w : World} {gf : FuncId} {lb : Array Value} (hg : a.eval g = .func (.func gf) #[] lb) (eg : ∀ args w, (callFunc gf args).run P w = .ok (.enter gf args) w)
    (h : ∀ fn, CallsIn Fence.wide (n - 1) P gf (#[.func (.yield (w.heap.size + 1)) #[] #[]] ++ lb) ((w.alloc (.deferred (some []))).alloc (.loop (rcd fn a.tmps ps assign body w.heap.size .ready))) fun e W =>
      (∃ v, e = .returned v) ∧ ((W.heap[w.heap.size + 1]? = some (.loop (rcd fn a.tmps ps assign body w.heap.size .ready)) ∧ Q .normal { a with defers := { target := .collected w.heap.size, args := #[] } :: a.defers } (W.putObj (w.heap.size + 1) (.loop (rcd fn a.tmps ps assign body w.heap.size .exhausted)))) ∨
        (W.heap[w.heap.size + 1]? = some (.loop (rcr fn a.tmps ps assign body w.heap.size .done)) ∧ Q .ret { a with defers := { target := .collected w.heap.size, args := #[] } :: a.defers } (W.putObj (w.heap.size + 1) (.loop (rcr fn a.tmps ps assign body w.heap.size .exhausted)))))) :
    (Code.rangeFunc g ps assign body).wpIn Fence.wide n P Q a w := by
  refine wpIn_rangeFunc fun fn _ => ?_
  refine ⟨w.heap.size + 1, [{ target := .collected w.heap.size, args := #[] }], (w.alloc (.deferred (some []))).alloc (.loop (rcd fn a.tmps ps assign body w.heap.size .ready)), { target := .fn (.func gf) lb, args := #[.func (.yield (w.heap.size + 1)) #[] #[]] }, (w.alloc (.deferred (some []))).alloc (.loop (rcd fn a.tmps ps assign body w.heap.size .ready)), gf, _, _, run_enterLoop_outer fn a.tmps ps assign body, ?_, fun _ _ => trivial, ?_, ?_, (h fn).mono ?_⟩
  · simp only [resolve, hg]
    simp [go_sem]
  · simp [invoke, go_sem, eg]
  · intro h; cases h
  · rintro e W ⟨⟨v, rfl⟩, ⟨hl, hq⟩ | ⟨hl, hq⟩⟩
    · exact ⟨none, _, run_endLoop (P := P) hl (by simp [rcd]), hq⟩
    · exact ⟨some .ret, _, run_endLoop (P := P) hl (by simp [rcr]), wpIn_ret hq⟩

theorem yield_roundr {P : Program} {m l : Nat} {W : World} {fn : FuncId} {tmps : Array Value} {ps : Array Tmp} {assign body : Code} {D : Nat} {rc rr : LoopState → Loop} (hrc : rcd fn tmps ps assign body D = rc) (hrr : rcr fn tmps ps assign body D = rr) (hl : W.heap[l]? = some (.loop (rc .ready))) (args : Array Value) (hs : args.size = ps.size) (R : Ending → World → Prop)
    (h : assign.wpIn (Fence.wide.inRound l) m P (Exit.then (fun a1 W1 => W1.heap[l]? = some (.loop (rc .ready)) ∧ body.wpIn (Fence.wide.inRound l) m P
      (fun e _ W2 => W2.heap[l]? = some (.loop (rc .busy)) ∧ ((e = .normal ∧ R (.returned (.bool true)) (W2.putObj l (.loop (rc .ready)))) ∨ (e = .ret ∧ R (.returned (.bool false)) (W2.putObj l (.loop (rr .done)))))) a1 (W1.putObj l (.loop (rc .busy)))) (fun _ _ _ => False))
      { tmps := (ps.zip args).foldl (fun t (p, v) => t.setIfInBounds p v) tmps, defers := [] } W) : YieldAt Fence.wide m P l args W R := by
  subst hrc hrr
  refine ⟨fn, _, assign, body, run_yield (P := P) hl hs, roundIn_of_wpIn trivial (wpIn_mono h ?_)⟩
  intro e a1 W1 h1
  cases e with
  | normal =>
    obtain ⟨h2, h3⟩ := h1
    refine ⟨_, run_beginRound (P := P) h2 rfl, wpIn_mono h3 ?_⟩
    rintro e a2 W2 ⟨h4, ⟨rfl, h5⟩ | ⟨rfl, h5⟩⟩
    · exact ⟨_, _, run_endRound (P := P) none h4, h5⟩
    · exact ⟨_, _, run_endRound (P := P) (some .ret) h4, h5⟩
  | _ => exact h1
end Go.Proofs.Ytfigoeoimefngaa

/-
  Which blocks turn: those of O alone.
-/
namespace Go.Proofs.Ytfigoeoimefngaa
open Go.RowKit

/-- Nothing that was there has turned but the blocks of O; O' has blocks of O and new ones alone. -/
structure Turns (O : Nat → Prop) (w w' : World) (O' : Nat → Prop) : Prop where
  os : w'.os = w.os
  tape : w'.tape = w.tape
  output : w'.output = w.output
  size : w.heap.size ≤ w'.heap.size
  block : ∀ i, i < w.heap.size → ¬ O i → w'.heap[i]? = w.heap[i]?
  own : ∀ i, O' i → O i ∨ w.heap.size ≤ i
section
variable {O O1 O2 : Nat → Prop} {a w w1 w2 : World}
theorem Turns.refl (O : Nat → Prop) (w : World) : Turns O w w O := ⟨rfl, rfl, rfl, Nat.le_refl _, fun _ _ _ => rfl, fun _ h => .inl h⟩
theorem Turns.trans (h : Turns O w w1 O1) (k : Turns O1 w1 w2 O2) : Turns O w w2 O2 :=
  ⟨k.os.trans h.os, k.tape.trans h.tape, k.output.trans h.output, Nat.le_trans h.size k.size, fun i hi ho => by
    have h1 : ¬ O1 i := fun h1 => by
      rcases h.own i h1 with h2 | h2
      · exact ho h2
      · omega
    exact (k.block i (Nat.lt_of_lt_of_le hi h.size) h1).trans (h.block i hi ho), fun i hi => by
    have := h.size
    rcases k.own i hi with h1 | h1
    · exact h.own i h1
    · exact .inr (by omega)⟩
theorem Turns.grows (h : Turns O w w1 O1) (k : Grows w1 w2) : Turns O w w2 O1 :=
  ⟨k.os.trans h.os, k.tape.trans h.tape, k.output.trans h.output, Nat.le_trans h.size k.size, fun i hi ho => (k.block i (Nat.lt_of_lt_of_le hi h.size)).trans (h.block i hi ho), h.own⟩
theorem Turns.after (h : Turns O w1 w2 O1) (k : Grows w w1) : Turns O w w2 O1 :=
  ⟨h.os.trans k.os, h.tape.trans k.tape, h.output.trans k.output, Nat.le_trans k.size h.size, fun i hi ho => (h.block i (Nat.lt_of_lt_of_le hi k.size) ho).trans (k.block i hi), fun i hi => by
    have := k.size
    rcases h.own i hi with h1 | h1
    · exact .inl h1
    · exact .inr (by omega)⟩
theorem Turns.at (h : Turns O w w1 O1) {g : Nat} {t : TypeId} {cs : Array Value} (hg : At w g t cs) (ho : ¬ O g) : At w1 g t cs := (h.block g hg.lt ho).trans hg
theorem Turns.low (h : Turns O w w1 O1) (k : Grows a w) (hO : ∀ i, O i → a.heap.size ≤ i) : Grows a w1 :=
  ⟨h.os.trans k.os, h.tape.trans k.tape, h.output.trans k.output, Nat.le_trans k.size h.size, fun i hi => (h.block i (Nat.lt_of_lt_of_le hi k.size) (fun ho => by have := hO i ho; omega)).trans (k.block i hi)⟩
theorem Turns.rd (h : Turns O w w1 O1) {p : Option Addr} {xs : List Value} (hr : Rd w p xs) (ho : ∀ b off, p = some ⟨b, off, none⟩ → ¬ O b) : Rd w1 p xs := by
  rcases hr with hr | ⟨b, off, e, hb, hc⟩
  · exact .inl hr
  · exact .inr ⟨b, off, e, Nat.lt_of_lt_of_le hb h.size, fun i v hv => (World.cell?_of_block (h.block b hb (ho b off e))).trans (hc i v hv)⟩
end

section
variable {O O1 O2 : Nat → Prop} {a w w1 w2 : World}
theorem Turns.alloc (h : Turns O w w1 O1) (o : Obj) : Turns O w (w1.alloc o) O1 := h.grows ((Grows.refl _).alloc o)
theorem Turns.set (h : Turns O w w1 O1) {g : Nat} (hg : O g ∨ w.heap.size ≤ g) (i : Nat) (u : Value) : Turns O w (w1.setCell ⟨g, i, none⟩ u) O1 :=
  ⟨h.os, h.tape, h.output, by simpa using h.size, fun j hj hn => (Below.heap_setCell w1 ⟨g, i, none⟩ u j (fun e => by
    have e' : j = g := e
    subst e'
    rcases hg with h1 | h1
    · exact hn h1
    · omega)).trans (h.block j hj hn), h.own⟩
theorem Turns.put (h : Turns O w w1 O1) {g : Nat} (hg : O g ∨ w.heap.size ≤ g) (o : Obj) : Turns O w (w1.putObj g o) O1 :=
  ⟨h.os, h.tape, h.output, by simpa [World.putObj] using h.size, fun j hj hn => (World.putObj_heap_other (fun e => by
    have e' : j = g := e
    subst e'
    rcases hg with h1 | h1
    · exact hn h1
    · omega)).trans (h.block j hj hn), h.own⟩
theorem Turns.wide (h : Turns O w w1 O1) {O' O1' : Nat → Prop} (hO : ∀ i, O i → O' i) (h1 : ∀ i, O1' i → O1 i ∨ O' i) : Turns O' w w1 O1' :=
  ⟨h.os, h.tape, h.output, h.size, fun i hi hn => h.block i hi (fun e => hn (hO i e)), fun i hi => by
    rcases h1 i hi with h2 | h2
    · rcases h.own i h2 with h3 | h3
      · exact .inl (hO i h3)
      · exact .inr h3
    · exact .inl h2⟩
theorem own_keep {B : Nat} {e : TypeId} {size n : Nat} {v : Value} {xs : List Value} (h : w.ownsRow B e size v n xs) (hb : ∀ b, v.ownBlock = some b → w1.heap[b]? = w.heap[b]?) : w1.ownsRow B e size v n xs := by
  refine ⟨h.1, ?_⟩
  rcases h.2 with h3 | ⟨g, cap, cur, h3, h4, h5, h6⟩
  · exact .inl h3
  · exact .inr ⟨g, cap, cur, h3, h4, (hb g (by rw [h3]; rfl)).trans h5, h6⟩
theorem own_typed {B : Nat} {e : TypeId} {size n : Nat} {v : Value} {xs : List Value} (h : w.ownsRow B e size v n xs) {b : Nat} (hb : v.ownBlock = some b) : ∃ cur, w.heap[b]? = some (.cells cur e (0, 0)) ∧ B ≤ b ∧ b < w.heap.size := by
  rcases h.2 with h2 | ⟨g, cap, cur, h1, h2, h3, _⟩
  · rw [h2.1] at hb; cases hb
  · rw [h1] at hb; cases hb; exact ⟨cur, h3, h2, (Array.getElem?_eq_some_iff.1 h3).1⟩
/-- A row's block is no block of another type. -/
theorem own_apart {B : Nat} {e t : TypeId} {size n g : Nat} {v : Value} {xs : List Value} {cs : Array Value} (h : w.ownsRow B e size v n xs) (hg : At w g t cs) (ht : e ≠ t) : v.ownBlock ≠ some g := by
  intro hb
  obtain ⟨cur, h1, _⟩ := own_typed h hb
  unfold At at hg
  rw [hg] at h1
  injection h1 with h1
  injection h1 with _ h1
  exact ht h1.symm
end
end Go.Proofs.Ytfigoeoimefngaa

/-
  '==' on arrays.
-/
namespace Go.Proofs.Ytfigoeoimefngaa
open Go.RowKit
section
variable {P : Program} (w : World)

theorem run_eq_array (d : Nat) (t e : TypeId) (n s : Nat) (xs ys : Array Value) (ht : P.underlying t = some (.array n e)) (hs : (sizeOf e).run P w = .ok s w)
    (u v : Nat → Value) (q : Nat → Bool) (hu : ∀ i, i < n → (part e xs (i * s)).run P w = .ok (u i) w) (hv : ∀ i, i < n → (part e ys (i * s)).run P w = .ok (v i) w) (hq : ∀ i, i < n → (Op.equalIn d e (u i) (v i)).run P w = .ok (q i) w) :
    (Op.equalIn (d + 1) t (.agg xs) (.agg ys)).run P w = .ok ((List.range n).all q) w := by
  simp only [Op.equalIn, Sem.run_bind, run_underlying ht, Result.andThen_ok, hs]
  rw [Std.Legacy.Range.forIn_eq_forIn_range']
  simp only [Std.Legacy.Range.size, Nat.sub_zero, Nat.add_one_sub_one, Nat.div_one]
  have key : ∀ (l : List Nat), (∀ i ∈ l, i < n) →
      Sem.run P (forIn l ((none : Option Bool), ()) fun i __s => do
        let a ← part e xs (i * s)
        let b ← part e ys (i * s)
        let c ← Op.equalIn d e a b
        if (!c) = true then pure (ForInStep.done (some false, ())) else pure (ForInStep.yield ((none : Option Bool), ()))) w = .ok (if l.all q then (none, ()) else (some false, ())) w := by
    intro l
    induction l with
    | nil => intro _; simp
    | cons i l ih =>
      intro h
      have hi := h i (by simp)
      simp only [List.forIn_cons, Sem.run_bind, hu i hi, hv i hi, hq i hi, Result.andThen_ok]
      cases hqi : q i
      · simp [hqi]
      · have := ih fun j hj => h j (by simp [hj])
        simp only [Bool.not_true, Bool.false_eq_true, if_false, Sem.run_pure, Result.andThen_ok, List.all_cons, hqi, Bool.true_and]
        exact this
  rw [← List.range_eq_range', key (List.range n) (by simp)]
  cases (List.range n).all q <;> simp

/-- Arrays of integers. -/
theorem run_eq_ints (d : Nat) (t e : TypeId) (n : Nat) (k : IntKind) (zs ys : List Int) (ht : P.underlying t = some (.array n e)) (he : P.underlying e = some (.int k)) (hs : (sizeOf e).run P w = .ok 1 w) (ha : (isAgg e).run P w = .ok false w) (hz : zs.length = n) (hy : ys.length = n) :
    (Op.equalIn (d + 2) t (.agg (zs.map (Value.int k)).toArray) (.agg (ys.map (Value.int k)).toArray)).run P w = .ok (zs == ys) w := by
  have hp : ∀ (l : List Int), l.length = n → ∀ i, i < n → (part e (l.map (Value.int k)).toArray (i * 1)).run P w = .ok (.int k (l.getD i 0)) w := by
    intro l hl i hi
    unfold part
    simp only [Sem.run_bind, ha, Result.andThen_ok, Bool.false_eq_true, if_false, Nat.mul_one]
    have : (l.map (Value.int k)).toArray[i]? = some (.int k (l.getD i 0)) := by
      simp [List.getElem?_eq_getElem (show i < l.length by omega)]
    rw [this]
    rfl
  rw [run_eq_array w (d + 1) t e n 1 _ _ ht hs (fun i => .int k (zs.getD i 0)) (fun i => .int k (ys.getD i 0)) (fun i => zs.getD i 0 == ys.getD i 0) (hp zs hz) (hp ys hy) (fun i _ => run_equalIn_int w d e k k _ _ he)]
  congr 1
  rw [Bool.eq_iff_iff]
  simp only [List.all_eq_true, List.mem_range, beq_iff_eq]
  constructor
  · intro h
    apply List.ext_getElem (by omega)
    intro i h1 h2
    have := h i (by omega)
    simpa [List.getElem?_eq_getElem h1, List.getElem?_eq_getElem h2] using this
  · intro h i _
    rw [h]

theorem run_eql_ints (t e : TypeId) (n : Nat) (k : IntKind) (zs ys : List Int) (ht : P.underlying t = some (.array n e)) (he : P.underlying e = some (.int k)) (hs : (sizeOf e).run P w = .ok 1 w) (ha : (isAgg e).run P w = .ok false w) (hz : zs.length = n) (hy : ys.length = n) :
    (binOp .eql t (.agg (zs.map (Value.int k)).toArray) (.agg (ys.map (Value.int k)).toArray)).run P w = .ok (.bool (zs == ys)) w := by
  rw [run_eql_struct, run_eq_ints w 9998 t e n k zs ys ht he hs ha hz hy]
  rfl
theorem run_neq_ints (t e : TypeId) (n : Nat) (k : IntKind) (zs ys : List Int) (ht : P.underlying t = some (.array n e)) (he : P.underlying e = some (.int k)) (hs : (sizeOf e).run P w = .ok 1 w) (ha : (isAgg e).run P w = .ok false w) (hz : zs.length = n) (hy : ys.length = n) :
    (binOp .neq t (.agg (zs.map (Value.int k)).toArray) (.agg (ys.map (Value.int k)).toArray)).run P w = .ok (.bool !(zs == ys)) w := by
  rw [run_neq_struct, run_eq_ints w 9998 t e n k zs ys ht he hs ha hz hy]
  rfl
end
end Go.Proofs.Ytfigoeoimefngaa

/-
  '==' on flat values (integers, bools, structs and arrays of them), over any program: cell by cell.
-/
namespace Go.Proofs.Ytfigoeoimefngaa
open Go.RowKit

def cellEq : Value → Value → Bool
  | .int _ a, .int _ b => a == b
  | .bool a, .bool b => a == b
  | _, _ => false
def cellsEq : List Value → List Value → Bool
  | [], [] => true
  | x :: xs, y :: ys => cellEq x y && cellsEq xs ys
  | _, _ => false
def OfKind (k : Option IntKind) (v : Value) : Prop :=
  match k with
  | some k => ∃ n, v = .int k n
  | none => ∃ b, v = .bool b
def OfKinds : List (Option IntKind) → List Value → Prop
  | [], [] => True
  | k :: ks, v :: vs => OfKind k v ∧ OfKinds ks vs
  | _, _ => False

theorem OfKinds.length : ∀ {ks : List (Option IntKind)} {cs : List Value}, OfKinds ks cs → cs.length = ks.length
  | [], [], _ => rfl
  | _ :: _, _ :: _, h => by simp [OfKinds.length h.2]
  | [], _ :: _, h => h.elim
  | _ :: _, [], h => h.elim
theorem OfKinds.split : ∀ {ks ks' : List (Option IntKind)} {cs : List Value}, OfKinds (ks ++ ks') cs → OfKinds ks (cs.take ks.length) ∧ OfKinds ks' (cs.drop ks.length)
  | [], _, _, h => by simpa [OfKinds] using h
  | k :: ks, ks', [], h => h.elim
  | k :: ks, ks', v :: vs, h => by
    have h2 := OfKinds.split (ks := ks) (ks' := ks') (cs := vs) h.2
    exact ⟨by simp only [List.length_cons, List.take_succ_cons]; exact ⟨h.1, h2.1⟩, by simpa using h2.2⟩
theorem OfKinds.join : ∀ {ks ks' : List (Option IntKind)} {a b : List Value}, OfKinds ks a → OfKinds ks' b → OfKinds (ks ++ ks') (a ++ b)
  | [], _, [], _, _, h => h
  | [], _, _ :: _, _, h, _ => h.elim
  | _ :: _, _, [], _, h, _ => h.elim
  | _ :: _, _, _ :: _, _, h, h' => ⟨h.1, OfKinds.join h.2 h'⟩
theorem cellsEq_append : ∀ {a a' b b' : List Value}, a.length = a'.length → cellsEq (a ++ b) (a' ++ b') = (cellsEq a a' && cellsEq b b')
  | [], [], _, _, _ => by simp [cellsEq]
  | x :: a, y :: a', b, b', h => by
    simp only [List.cons_append, cellsEq, Bool.and_assoc]
    rw [cellsEq_append (by simpa using h)]
theorem cellEq_iff {k : Option IntKind} {a b : Value} (ha : OfKind k a) (hb : OfKind k b) : cellEq a b = true ↔ a = b := by
  cases k with
  | none => obtain ⟨x, rfl⟩ := ha; obtain ⟨y, rfl⟩ := hb; simp [cellEq]
  | some k => obtain ⟨x, rfl⟩ := ha; obtain ⟨y, rfl⟩ := hb; simp [cellEq]
theorem cellsEq_iff : ∀ {ks : List (Option IntKind)} {a b : List Value}, OfKinds ks a → OfKinds ks b → (cellsEq a b = true ↔ a = b)
  | [], [], [], _, _ => by simp [cellsEq]
  | k :: ks, x :: a, y :: b, h, h' => by
    rw [cellsEq, Bool.and_eq_true, cellEq_iff h.1 h'.1, cellsEq_iff h.2 h'.2, List.cons.injEq]
  | [], _ :: _, _, h, _ => h.elim
  | [], [], _ :: _, _, h => h.elim
  | _ :: _, [], _, h, _ => h.elim
  | _ :: _, _ :: _, [], _, h => h.elim

section
variable (P : Program)
/-- The kinds of the cells of a type that is flat, where '==' on it goes cell by cell. -/
def flatQ : Nat → TypeId → Option (List (Option IntKind))
  | 0, _ => none
  | f + 1, t =>
    match P.underlying t with
    | some .bool => some [none]
    | some (.int k) => some [some k]
    | some (.array n e) =>
      match flatQ f e with
      | some ks => if (P.info? e).map (·.size) = some ks.length then some (List.replicate n ks).flatten else none
      | none => none
    | some (.struct fs) =>
      match fs.toList.mapM (fun g => flatQ f g.type) with
      | some kss =>
        if (fs.toList.all fun g => g.name != "_") = true ∧ P.stoodInHeld t = false ∧ (fs.toList.map fun g => (P.info? g.type).map (·.size)) = kss.map (fun ks => some ks.length) ∧
          (fs.toList.map fun g => g.offset) = (List.range kss.length).map fun i => ((kss.take i).map List.length).sum
        then some kss.flatten else none
      | none => none
    | _ => none
/-- The value of some cells. -/
def mkV (t : TypeId) (cs : List Value) : Value :=
  match P.underlying t with
  | some (.struct _) => .agg cs.toArray
  | some (.array _ _) => .agg cs.toArray
  | _ => cs.headD (.int .i64 0)
end

section
variable {P : Program} (w : World)
theorem part_flat {f : Nat} {t : TypeId} {ks : List (Option IntKind)} (h : flatQ P f t = some ks) (hs : (P.info? t).map (·.size) = some ks.length) (cs : List Value) (off : Nat) (hl : off + ks.length ≤ cs.length) :
    (part t cs.toArray off).run P w = .ok (mkV P t ((cs.drop off).take ks.length)) w := by
  cases f with
  | zero => cases h
  | succ f =>
    obtain ⟨inf, hi, hsz⟩ : ∃ i, P.info? t = some i ∧ i.size = ks.length := by
      cases hq : P.info? t with
      | none => rw [hq] at hs; cases hs
      | some i => rw [hq] at hs; exact ⟨i, rfl, by simpa using hs⟩
    unfold flatQ at h
    split at h
    · rename_i hu
      injection h with h
      subst h
      have hlt : off < cs.length := by simp at hl; omega
      simp only [part, isAgg, Sem.run_bind, run_underlying hu, Result.andThen_ok, Sem.run_pure, Bool.false_eq_true, if_false, mkV, hu]
      rw [List.getElem?_toArray, List.getElem?_eq_getElem hlt, List.drop_eq_getElem_cons hlt]
      rfl
    · rename_i k hu
      injection h with h
      subst h
      have hlt : off < cs.length := by simp at hl; omega
      simp only [part, isAgg, Sem.run_bind, run_underlying hu, Result.andThen_ok, Sem.run_pure, Bool.false_eq_true, if_false, mkV, hu]
      rw [List.getElem?_toArray, List.getElem?_eq_getElem hlt, List.drop_eq_getElem_cons hlt]
      rfl
    · rename_i n e hu
      simp [part, isAgg, run_underlying hu, sizeOf, typeInfo, hi, hsz, mkV, hu]
    · rename_i fs hu
      simp [part, isAgg, run_underlying hu, sizeOf, typeInfo, hi, hsz, mkV, hu]
    · cases h

theorem kinds_seg : ∀ {kss : List (List (Option IntKind))} {cs : List Value} (i : Nat) {ks : List (Option IntKind)}, OfKinds kss.flatten cs → kss[i]? = some ks → OfKinds ks ((cs.drop ((kss.take i).map List.length).sum).take ks.length) ∧ ((kss.take i).map List.length).sum + ks.length ≤ cs.length
  | [], _, _, _, _, h => by simp at h
  | k :: kss, cs, 0, ks, h, hi => by
    simp only [List.getElem?_cons_zero, Option.some.injEq] at hi
    subst hi
    rw [List.flatten_cons] at h
    have := h.length
    rw [List.length_append] at this
    exact ⟨by simpa using h.split.1, by simp; omega⟩
  | k :: kss, cs, i + 1, ks, h, hi => by
    rw [List.flatten_cons] at h
    have hl := h.length
    rw [List.length_append] at hl
    obtain ⟨h1, h2⟩ := kinds_seg (kss := kss) i h.split.2 (by simpa using hi)
    rw [List.length_drop] at h2
    refine ⟨?_, ?_⟩
    · simp only [List.take_succ_cons, List.map_cons, List.sum_cons]
      rw [List.drop_drop] at h1
      exact h1
    · simp only [List.take_succ_cons, List.map_cons, List.sum_cons]
      omega

theorem all_chunks (c : Nat) : ∀ (n : Nat) (xs ys : List Value), xs.length = n * c → ys.length = n * c → (List.range n).all (fun i => cellsEq ((xs.drop (i * c)).take c) ((ys.drop (i * c)).take c)) = cellsEq xs ys
  | 0, xs, ys, hx, hy => by
    have h1 : xs = [] := List.eq_nil_of_length_eq_zero (by simpa using hx)
    have h2 : ys = [] := List.eq_nil_of_length_eq_zero (by simpa using hy)
    subst h1; subst h2; rfl
  | n + 1, xs, ys, hx, hy => by
    rw [Nat.succ_mul] at hx hy
    rw [List.range_succ_eq_map, List.all_cons, List.all_map]
    have := all_chunks c n (xs.drop c) (ys.drop c) (by rw [List.length_drop]; omega) (by rw [List.length_drop]; omega)
    rw [show ((fun i => cellsEq (List.take c (List.drop (i * c) xs)) (List.take c (List.drop (i * c) ys))) ∘ Nat.succ) = fun i => cellsEq (((xs.drop c).drop (i * c)).take c) (((ys.drop c).drop (i * c)).take c) from by
      funext i
      simp only [Function.comp, List.drop_drop, Nat.succ_mul, Nat.add_comm]]
    rw [this]
    conv => rhs; rw [← List.take_append_drop c xs, ← List.take_append_drop c ys]
    rw [cellsEq_append (by simp; omega)]
    simp

theorem eqFields_flat {f : Nat} (d : Nat) (hQ : ∀ (t : TypeId) (ks : List (Option IntKind)), flatQ P f t = some ks → ∀ xs ys : List Value, OfKinds ks xs → OfKinds ks ys → (Op.equalIn d t (mkV P t xs) (mkV P t ys)).run P w = .ok (cellsEq xs ys) w) :
    ∀ (fs : List Field) (kss : List (List (Option IntKind))) (o : Nat) (xs ys : List Value), fs.mapM (fun g => flatQ P f g.type) = some kss → (fs.all fun g => g.name != "_") = true →
      (fs.map fun g => (P.info? g.type).map (·.size)) = kss.map (fun ks => some ks.length) → (fs.map fun g => g.offset) = (List.range kss.length).map (fun i => o + ((kss.take i).map List.length).sum) →
      OfKinds kss.flatten (xs.drop o) → OfKinds kss.flatten (ys.drop o) → o ≤ xs.length → o ≤ ys.length → (Op.eqFields d xs.toArray ys.toArray fs).run P w = .ok (cellsEq (xs.drop o) (ys.drop o)) w
  | [], kss, o, xs, ys, hk, _, _, _, hx, hy, _, _ => by
    simp at hk
    subst hk
    have h1 : xs.drop o = [] := List.eq_nil_of_length_eq_zero (by simpa using hx.length)
    have h2 : ys.drop o = [] := List.eq_nil_of_length_eq_zero (by simpa using hy.length)
    rw [h1, h2]
    simp [Op.eqFields, cellsEq]
  | g :: fs, kss, o, xs, ys, hk, hn, hs, ho, hx, hy, hox, hoy => by
    rw [List.mapM_cons] at hk
    cases hg : flatQ P f g.type with
    | none => simp [hg] at hk
    | some ks =>
      cases hl : fs.mapM (fun g => flatQ P f g.type) with
      | none => simp [hg, hl] at hk
      | some kss' =>
        simp [hg, hl] at hk
        subst hk
        rw [List.map_cons, List.map_cons, List.cons.injEq] at hs
        have ho' := ho
        rw [List.map_cons, List.length_cons, List.range_succ_eq_map, List.map_cons, List.cons.injEq] at ho'
        obtain ⟨hoff, horest⟩ := ho'
        simp only [List.take_zero, List.map_nil, List.sum_nil, Nat.add_zero] at hoff
        rw [List.all_cons, Bool.and_eq_true] at hn
        have hnm : g.name ≠ "_" := by simpa using hn.1
        rw [List.flatten_cons] at hx hy
        have hxl := hx.length
        have hyl := hy.length
        rw [List.length_append, List.length_drop] at hxl hyl
        have hgx := part_flat w hg hs.1 xs g.offset (by rw [hoff]; omega)
        have hgy := part_flat w hg hs.1 ys g.offset (by rw [hoff]; omega)
        have h1 := hQ g.type ks hg _ _ hx.split.1 hy.split.1
        rw [← hoff] at h1
        have ih := eqFields_flat d hQ fs kss' (o + ks.length) xs ys hl hn.2 hs.2 (by
          rw [horest, List.map_map]
          apply List.map_congr_left
          intro i _
          simp [Function.comp, Nat.add_assoc]) (by have := hx.split.2; rwa [List.drop_drop] at this) (by have := hy.split.2; rwa [List.drop_drop] at this) (by omega) (by omega)
        have hsp : cellsEq (xs.drop o) (ys.drop o) = (cellsEq ((xs.drop o).take ks.length) ((ys.drop o).take ks.length) && cellsEq (xs.drop (o + ks.length)) (ys.drop (o + ks.length))) := by
          conv => lhs; rw [← List.take_append_drop ks.length (xs.drop o), ← List.take_append_drop ks.length (ys.drop o)]
          rw [cellsEq_append (by simp; omega), List.drop_drop, List.drop_drop]
        rw [hsp]
        simp only [Op.eqFields, hnm, ne_eq, not_false_eq_true, if_true, Sem.run_bind, hgx, hgy, Result.andThen_ok, h1]
        rw [hoff]
        cases hc : cellsEq ((xs.drop o).take ks.length) ((ys.drop o).take ks.length)
        · simp
        · simpa using ih

theorem eq_flat : ∀ (f : Nat) (t : TypeId) (ks : List (Option IntKind)), flatQ P f t = some ks → ∀ (d : Nat) (xs ys : List Value), OfKinds ks xs → OfKinds ks ys →
    (Op.equalIn (d + f) t (mkV P t xs) (mkV P t ys)).run P w = .ok (cellsEq xs ys) w
  | 0, _, _, h, _, _, _, _, _ => by cases h
  | f + 1, t, ks, h, d, xs, ys, hx, hy => by
    have h0 := h
    unfold flatQ at h
    split at h
    · rename_i hu
      injection h with h
      subst h
      match xs, ys, hx, hy with
      | [a], [b], ⟨⟨p, hp⟩, _⟩, ⟨⟨q, hq⟩, _⟩ =>
        subst hp; subst hq
        simp [mkV, hu, Op.equalIn, run_underlying hu, cellsEq, cellEq]
    · rename_i k hu
      injection h with h
      subst h
      match xs, ys, hx, hy with
      | [a], [b], ⟨⟨p, hp⟩, _⟩, ⟨⟨q, hq⟩, _⟩ =>
        subst hp; subst hq
        simp [mkV, hu, Op.equalIn, run_underlying hu, cellsEq, cellEq]
    · rename_i n e hu
      split at h
      · rename_i ks' hk
        split at h
        · rename_i hc
          injection h with h
          subst h
          obtain ⟨inf, hi, hsz⟩ : ∃ i, P.info? e = some i ∧ i.size = ks'.length := by
            cases hq : P.info? e with
            | none => rw [hq] at hc; cases hc
            | some i => rw [hq] at hc; exact ⟨i, rfl, by simpa using hc⟩
          have hxl := hx.length
          have hyl := hy.length
          simp at hxl hyl
          have seg : ∀ (zs : List Value), OfKinds (List.replicate n ks').flatten zs → ∀ i, i < n → OfKinds ks' ((zs.drop (i * ks'.length)).take ks'.length) ∧ i * ks'.length + ks'.length ≤ zs.length := by
            intro zs hz i hi
            have := kinds_seg (kss := List.replicate n ks') (cs := zs) i (ks := ks') hz (by simp [hi])
            rwa [show (((List.replicate n ks').take i).map List.length).sum = i * ks'.length by simp [List.take_replicate, Nat.min_eq_left (Nat.le_of_lt hi)]] at this
          rw [show mkV P t xs = .agg xs.toArray by simp [mkV, hu], show mkV P t ys = .agg ys.toArray by simp [mkV, hu]]
          rw [show d + (f + 1) = (d + f) + 1 by omega]
          rw [run_eq_array w (d + f) t e n ks'.length xs.toArray ys.toArray hu (by simp [sizeOf, typeInfo, hi, hsz]) (fun i => mkV P e ((xs.drop (i * ks'.length)).take ks'.length)) (fun i => mkV P e ((ys.drop (i * ks'.length)).take ks'.length)) (fun i => cellsEq ((xs.drop (i * ks'.length)).take ks'.length) ((ys.drop (i * ks'.length)).take ks'.length))
            (fun i hi => part_flat w hk hc xs _ (seg xs hx i hi).2) (fun i hi => part_flat w hk hc ys _ (seg ys hy i hi).2) (fun i hi => eq_flat f e ks' hk d _ _ (seg xs hx i hi).1 (seg ys hy i hi).1)]
          rw [all_chunks ks'.length n xs ys (by simpa using hxl) (by simpa using hyl)]
        · cases h
      · cases h
    · rename_i fs hu
      split at h
      · rename_i kss hk
        split at h
        · rename_i hc
          injection h with h
          subst h
          rw [show mkV P t xs = .agg xs.toArray by simp [mkV, hu], show mkV P t ys = .agg ys.toArray by simp [mkV, hu]]
          rw [show d + (f + 1) = (d + f) + 1 by omega]
          have hf : P.fieldsOf t = fs := by simp [Program.fieldsOf, hu]
          rw [run_equalIn_struct w (d + f) t _ _ (by rw [hf]; exact hu) hc.2.1, hf]
          have := eqFields_flat w (d + f) (fun t ks h xs ys hx hy => eq_flat f t ks h d xs ys hx hy) fs.toList kss 0 xs ys hk hc.1 hc.2.2.1 (by simpa using hc.2.2.2) (by simpa using hx) (by simpa using hy) (by omega) (by omega)
          simpa using this
        · cases h
      · cases h
    · cases h

/-- '==' on aggregates of flat cells, at the depth where the walk asks. -/
theorem eq_flat_agg (f : Nat) (t : TypeId) (ks : List (Option IntKind)) (h : flatQ P f t = some ks) (hf : f ≤ 10000) (ha : ∀ cs, mkV P t cs = .agg cs.toArray) (xs ys : List Value) (hx : OfKinds ks xs) (hy : OfKinds ks ys) :
    (Op.equalIn 10000 t (.agg xs.toArray) (.agg ys.toArray)).run P w = .ok (cellsEq xs ys) w := by
  have := eq_flat (P := P) w f t ks h (10000 - f) xs ys hx hy
  rw [ha, ha, show 10000 - f + f = 10000 by omega] at this
  exact this
end
end Go.Proofs.Ytfigoeoimefngaa

/-
  A region that draws its order, whose operations read and whose calls only make memory: one walk in the text's order, in the class of worlds that have grown out of one.
-/
namespace Go.Proofs.Ytfigoeoimefngaa
open Go.RowKit

theorem wp_region_class {P : Program} {id : Nat} {Q : Exit → Act → World → Prop} {a : Act} {w : World} {l : List Oper} (w0 : World) (hm : P.follows .mixedOrders = true) (hB : Region.lexB .any l.toArray = true) (hC : Grows w0 w)
    (h : wpQuiet P l.toArray (Grows w0) (fun a' => ∀ w', Grows w0 w' → Q .normal a' w') l a) : (Code.region id l.toArray true).wp P Q a w :=
  wp_region_quiet (C := Grows w0) hm hB hC.drew (by simpa using h)

theorem quiet_load {P : Program} {C : World → Prop} {a : Act} {K : Act → Prop} {dst : Option Tmp} {ty t' : TypeId} {x : Operand} {pos : String} {after : Array Edge} {gd : Option (Nat × Bool)} {b off : Nat} {v : Value}
    (hx : a.eval x = .pointer (some ⟨b, off, none⟩)) (hv : ∀ w, C w → (loadVar ty ⟨b, off, none⟩).run P w = .ok v w) (hk : K (a.put dst v)) : Oper.quiet P ⟨dst, .load ty x, t', pos, after, gd⟩ a C K :=
  ⟨v, fun w hw => by
    unfold Oper.quietAt execOp
    simp only [hx, Instr.loadAt, Instr.sureAddr, Sem.run_bind, Sem.run_pure, Result.andThen_ok, hv w hw, Oper.quietUpon, and_self], hk⟩

theorem ld_row {P : Program} {w0 : World} {g : Nat} {t ty : TypeId} {cs : Array Value} {d : TypeDesc} (h : At w0 g t cs) (hu : P.underlying ty = some d) (hd : (match d with | .struct _ | .array _ _ => true | _ => false) = true) (hi : (P.info? ty).map (·.size) = some cs.size) :
    ∀ w, Grows w0 w → (loadVar ty ⟨g, 0, none⟩).run P w = .ok (.agg cs) w := fun w hw => run_loadVar_row w g t ty cs (0, 0) d (h.grows hw) hu hd hi
theorem ld_mid {P : Program} {w0 : World} {g o : Nat} {t ty : TypeId} {cs : List Value} {d : TypeDesc} {n : Nat} (h : At w0 g t cs.toArray) (hu : P.underlying ty = some d) (hd : d.isRow = true) (hn : o + n ≤ cs.length) (hi : (P.info? ty).map (·.size) = some n) :
    ∀ w, Grows w0 w → (loadVar ty ⟨g, o, none⟩).run P w = .ok (.agg ((cs.drop o).take n).toArray) w := fun w hw =>
  run_loadVar_mid w g o ty _ d ((h.grows hw).range o n) hu hd (by rw [hi, List.length_take, List.length_drop, Nat.min_eq_left (by omega)])
theorem ld_range {P : Program} {w0 : World} {g o : Nat} {ty : TypeId} {cs : List Value} {d : TypeDesc} (h : w0.rangeAt g o cs) (hg : g < w0.heap.size) (hu : P.underlying ty = some d) (hd : d.isRow = true) (hi : (P.info? ty).map (·.size) = some cs.length) :
    ∀ w, Grows w0 w → (loadVar ty ⟨g, o, none⟩).run P w = .ok (.agg cs.toArray) w := fun w hw =>
  run_loadVar_mid w g o ty cs d (fun j v hv => (hw.cell g _ hg).trans (h j v hv)) hu hd hi
theorem ld_int {P : Program} {w0 : World} {g o : Nat} {ty : TypeId} {k : IntKind} {n : Int} (hu : P.underlying ty = some (.int k)) (hc : w0.cell? ⟨g, o, none⟩ = some (.int k n)) : ∀ w, Grows w0 w → (loadVar ty ⟨g, o, none⟩).run P w = .ok (.int k n) w := fun w hw => by
  have hg := World.block_lt_of_cell? w0 _ hc
  have hc' : w.cell? ⟨g, o, none⟩ = some (.int k n) := (hw.cell g o hg).trans hc
  simp [loadVar, isAgg, run_underlying hu, go_sem, hc']
end Go.Proofs.Ytfigoeoimefngaa

/-
  Results that lie in memory, a row beside a number.
-/
namespace Go.Proofs.Ytfigoeoimefngaa
open Go.RowKit

theorem results_row_tmp {P : Program} {fn : Func} {p t : Tmp} {ty : TypeId} (h : fn.results = #[.cell p ty, .tmp t]) (tmps : Array Value) (w : World) (g : Nat) (T : TypeId) (cs : Array Value) (d : TypeDesc)
    (hp : tmps.getD p undef = .pointer (some ⟨g, 0, none⟩)) (hg : At w g T cs)
    (hu : P.underlying ty = some d) (hd : (match d with | .struct _ | .array _ _ => true | _ => false) = true) (hi : (P.info? ty).map (·.size) = some cs.size) :
    (results fn tmps).run P w = .ok (.tuple #[.agg cs, tmps.getD t undef]) w := by
  have hp' : tmps[p]?.getD undef = .pointer (some ⟨g, 0, none⟩) := by simpa using hp
  simp [results, h, hp', asAddr, run_loadVar_row w g T ty cs (0, 0) d hg hu hd hi]
theorem results_row_tmp2 {P : Program} {fn : Func} {p t u : Tmp} {ty : TypeId} (h : fn.results = #[.cell p ty, .tmp t, .tmp u]) (tmps : Array Value) (w : World) (g : Nat) (T : TypeId) (cs : Array Value) (d : TypeDesc)
    (hp : tmps.getD p undef = .pointer (some ⟨g, 0, none⟩)) (hg : At w g T cs)
    (hu : P.underlying ty = some d) (hd : (match d with | .struct _ | .array _ _ => true | _ => false) = true) (hi : (P.info? ty).map (·.size) = some cs.size) :
    (results fn tmps).run P w = .ok (.tuple #[.agg cs, tmps.getD t undef, tmps.getD u undef]) w := by
  have hp' : tmps[p]?.getD undef = .pointer (some ⟨g, 0, none⟩) := by simpa using hp
  simp [results, h, hp', asAddr, run_loadVar_row w g T ty cs (0, 0) d hg hu hd hi]
/-- A whole block is written over. -/
theorem At.all {w : World} {g : Nat} {t : TypeId} {cs vs : List Value} (h : At w g t cs.toArray) (hl : vs.length = cs.length) : At (w.setCells g 0 vs) g t vs.toArray := by
  have := At.setCells vs 0 h (by omega)
  rwa [show spl cs 0 vs = vs by simp [spl, hl]] at this
theorem At.keep {w : World} {g : Nat} {t : TypeId} {cs : Array Value} (h : At w g t cs) {b : Nat} (hb : g ≠ b) (o : Nat) (vs : List Value) : At (w.setCells b o vs) g t cs := At.setCells_far h hb vs o h
theorem one_ints (k : IntKind) (zs : List Int) : ∀ v ∈ zs.map (Value.int k), v.oneCell' = true := by
  intro v hv
  obtain ⟨z, _, rfl⟩ := List.mem_map.1 hv
  rfl
end Go.Proofs.Ytfigoeoimefngaa

/-
  A region that draws its order: an invariant over the operations that have come up serves every order.
-/
namespace Go.Proofs.Ytfigoeoimefngaa
open Go.RowKit

section
variable {P : Program} {ops : Array Oper} {Q : Exit → Act → World → Prop} {md : Region.Mode}
theorem wpAny_inv {I : Array Bool → Act → World → Prop}
    (hstep : ∀ listed a w i o, I listed a w → ops[i]? = some o → listed.getD i true = false → (∀ e ∈ o.after, Region.binds md e = true → listed.getD e.on false = true) →
      ∀ K' : Act → World → Prop, (∀ a' w', I (listed.setIfInBounds i true) a' w' → K' a' w') → if Region.wanted o (yielded ops a.tmps) = true then Oper.wp P o a w K' Q else K' (a.put o.dst undef) w)
    (hend : ∀ listed a w, I listed a w → Region.ready md ops listed = [] → Q .normal a w) :
    ∀ (fuel : Nat) (listed : Array Bool) (a : Act) (w : World), listed.toList.count false ≤ fuel → I listed a w → wpAny P md ops Q fuel listed a w := by
  intro fuel
  induction fuel with
  | zero =>
    intro listed a w hc hI
    have hr : Region.ready md ops listed = [] := by
      cases h : Region.ready md ops listed with
      | nil => rfl
      | cons i rs =>
        have hi : i ∈ Region.ready md ops listed := by rw [h]; simp
        have h0 := (mem_ready.1 hi).1
        have hl : i < listed.size := by
          rcases Nat.lt_or_ge i listed.size with h' | h'
          · exact h'
          · simp [Array.getD, Nat.not_lt.2 h'] at h0
        have hm : false ∈ listed.toList := by
          have : listed.toList[i]? = some false := by simp [Array.getD, hl] at h0 ⊢; exact h0
          exact List.mem_of_getElem? this
        have := List.count_pos_iff.2 hm
        omega
    exact ⟨hr, hend _ _ _ hI hr⟩
  | succ fuel ih =>
    intro listed a w hc hI
    refine ⟨hend _ _ _ hI, fun i hi => ?_⟩
    obtain ⟨h0, o, ho, hall⟩ := mem_ready.1 hi
    refine wpOp_step ho fun K' hK => hstep listed a w i o hI ho h0 hall K' fun a' w' hI' => hK _ _ (ih _ _ _ ?_ hI')
    have hl : i < listed.size := by
      rcases Nat.lt_or_ge i listed.size with h' | h'
      · exact h'
      · simp [Array.getD, Nat.not_lt.2 h'] at h0
    have h1 : listed.toList[i]'(by simpa using hl) = false := by simpa [Array.getD, hl] using h0
    have h2 : (listed.setIfInBounds i true).toList = listed.toList.set i true := by simp
    rw [h2, List.count_set (by simpa using hl), h1]
    simp only [beq_self_eq_true, if_true, Bool.true_beq, Bool.false_eq_true, if_false, Nat.add_zero]
    first | omega | (simp; omega) | (have h3 : 0 < listed.toList.count false := List.count_pos_iff.2 (by rw [← h1]; exact List.getElem_mem _); simp; omega)
theorem wp_region_inv {id : Nat} {a : Act} {w : World} (hm : P.follows .mixedOrders = true) (I : Array Bool → Act → World → Prop)
    (hI : I (Array.replicate ops.size false) a w.drew)
    (hstep : ∀ listed a w i o, I listed a w → ops[i]? = some o → listed.getD i true = false → (∀ e ∈ o.after, Region.binds .any e = true → listed.getD e.on false = true) →
      ∀ K' : Act → World → Prop, (∀ a' w', I (listed.setIfInBounds i true) a' w' → K' a' w') → if Region.wanted o (yielded ops a.tmps) = true then Oper.wp P o a w K' Q else K' (a.put o.dst undef) w)
    (hend : ∀ listed a w, I listed a w → Region.ready .any ops listed = [] → Q .normal a w) : (Code.region id ops true).wp P Q a w :=
  wp_region_any hm (wpAny_inv hstep hend _ _ _ _ (by simp) hI)
end
def updn {α : Type} (f : Nat → α) (i : Nat) (x : α) (j : Nat) : α := if j = i then x else f j
theorem updn_ok {l : Nat → Bool} {u vals : Nat → Value} (h : ∀ j, l j = true → u j = vals j) (i : Nat) : ∀ j, (updn l i true) j = true → (updn u i (vals i)) j = vals j := fun j hj => by
  unfold updn at *
  by_cases e : j = i
  · rw [if_pos e, e]
  · rw [if_neg e] at hj ⊢
    exact h j hj
theorem updn_keep {l : Nat → Bool} {u vals : Nat → Value} (h : ∀ j, l j = true → u j = vals j) (i : Nat) : ∀ j, l j = true → (updn u i (vals i)) j = vals j := fun j hj => by
  unfold updn
  by_cases e : j = i
  · rw [if_pos e, e]
  · rw [if_neg e]
    exact h j hj
theorem updn_all {l : Nat → Bool} {n : Nat} {i : Nat} (hn : l n = false) (hi : i ≠ n) : (updn l i true) n = true → ∀ j, j < n → (updn l i true) j = true := fun e => by
  unfold updn at e
  rw [if_neg (Ne.symm hi), hn] at e
  cases e
/-- A load within a fence, by its run. -/
theorem wpListIn_load {F : Fence} {n : Nat} {P : Program} {ops : Array Oper} {rest : List Oper} {o : Oper} {a : Act} {w : World} {Q : Exit → Act → World → Prop} (hgd : o.guard = none) (ty : TypeId) (x : Operand) (ho : o.op = .load ty x)
    (b off : Nat) (v : Value) (hx : a.eval x = .pointer (some ⟨b, off, none⟩)) (hv : (loadVar ty ⟨b, off, none⟩).run P w = .ok v w) (h : wpListIn F n P ops Q rest (a.put o.dst v) w) : wpListIn F n P ops Q (o :: rest) a w := by
  refine wpListIn_plain hgd fun K hK' => ?_
  unfold Oper.wpIn
  refine ⟨?_, ?_⟩
  · simp [Oper.about, ho]
  · rw [Oper.semAt_plain F _ _ (by rw [ho]; intro c hc'; cases hc')]
    simp only [execOp, ho, hx, Instr.loadAt, Instr.sureAddr, Sem.run_bind, Sem.run_pure, Result.andThen_ok, hv]
    exact hK' _ _ h
/-- A store within a fence, by its run. -/
theorem wpListIn_store {F : Fence} {n : Nat} {P : Program} {ops : Array Oper} {rest : List Oper} {o : Oper} {a : Act} {w w' : World} {Q : Exit → Act → World → Prop} (hgd : o.guard = none) (ty : TypeId) (x y : Operand) (ho : o.op = .store ty x y)
    (b off : Nat) (v : Value) (hx : a.eval x = .pointer (some ⟨b, off, none⟩)) (hy : a.eval y = v) (hv : (storeVar ty ⟨b, off, none⟩ v).run P w = .ok () w') (h : wpListIn F n P ops Q rest (a.put o.dst undef) w') : wpListIn F n P ops Q (o :: rest) a w := by
  refine wpListIn_plain hgd fun K hK' => ?_
  unfold Oper.wpIn
  refine ⟨?_, ?_⟩
  · simp [Oper.about, ho]
  · rw [Oper.semAt_plain F _ _ (by rw [ho]; intro c hc'; cases hc')]
    simp only [execOp, ho, hx, hy, Instr.storeAt, Instr.sureAddr, Sem.run_bind, Sem.run_pure, Result.andThen_ok, hv]
    exact hK' _ _ h
end Go.Proofs.Ytfigoeoimefngaa

/-
  Arguments that are flat (integers, bools, structs and arrays of them) and slices of flat elements, opened to their cells; over any program.
-/
namespace Go.Proofs.Ytfigoeoimefngaa
open Go.RowKit Go.ChangeShapes Go.WideShapes Go.ChangeAt Go.Deep

/-- What one cell of a flat type holds. -/
def CellFits (k : Option IntKind) (v : Value) : Prop :=
  match k with
  | some k => ∃ n, v = .int k n ∧ (Lit.int k n).wf = true
  | none => ∃ b, v = .bool b

/-- The kinds of a flat type's cells (none: a bool), with fuel; it asks that the fields lie one behind the other. -/
def flat (P : Program) : Nat → TypeId → Option (List (Option IntKind))
  | 0, _ => none
  | f + 1, t =>
    match P.underlying t with
    | some .bool => some [none]
    | some (.int k) => some [some k]
    | some (.array n e) =>
      match flat P f e with
      | some ks => if P.cellsOf e = ks.length ∧ P.cellsOf t = n * ks.length then some (List.replicate n ks).flatten else none
      | none => none
    | some (.struct fs) =>
      match fs.toList.mapM (fun g => flat P f g.type) with
      | some kss =>
        if P.cellsOf t = kss.flatten.length ∧ (fs.toList.map fun g => P.cellsOf g.type) = kss.map List.length ∧ (fs.toList.map fun g => g.offset) = (List.range kss.length).map fun i => ((kss.take i).map List.length).sum
        then some kss.flatten else none
      | none => none
    | _ => none

theorem mapM_at {α β : Type} {f : α → Option β} : ∀ {l : List α} {r : List β}, l.mapM f = some r → ∀ {i : Nat} (hi : i < l.length) {y : β}, r[i]? = some y → f l[i] = some y
  | [], _, _, i, hi, _, _ => by simp at hi
  | a :: l, r, h, i, hi, y, hy => by
    rw [List.mapM_cons] at h
    cases ha : f a with
    | none => simp [ha] at h
    | some b =>
      cases hl : l.mapM f with
      | none => simp [ha, hl] at h
      | some r' =>
        simp [ha, hl] at h
        subst h
        cases i with
        | zero => simpa [ha] using hy
        | succ i => exact mapM_at hl (by simpa using hi) (by simpa using hy)

def Fit : List (Option IntKind) → List Value → Prop
  | [], [] => True
  | k :: ks, v :: vs => CellFits k v ∧ Fit ks vs
  | _, _ => False

theorem Fit.length : ∀ {ks : List (Option IntKind)} {cs : List Value}, Fit ks cs → cs.length = ks.length
  | [], [], _ => rfl
  | _ :: _, _ :: _, h => by simp [Fit.length h.2]
  | [], _ :: _, h => h.elim
  | _ :: _, [], h => h.elim

theorem Fit.append : ∀ {ks ks' : List (Option IntKind)} {cs : List Value}, Fit ks (cs.take ks.length) → Fit ks' (cs.drop ks.length) → Fit (ks ++ ks') cs
  | [], _, _, _, h' => by simpa using h'
  | _ :: _, _, [], h, _ => by simp [Fit] at h
  | k :: ks, ks', v :: vs, h, h' => by
    simp only [List.length_cons, List.take_succ_cons, Fit] at h
    simp only [List.length_cons, List.drop_succ_cons] at h'
    exact ⟨h.1, Fit.append h.2 h'⟩

theorem Fit.nil {cs : List Value} (h : cs.length = 0) : Fit [] cs := by
  cases cs with
  | nil => trivial
  | cons v vs => simp at h

/-- Segments that fit, one behind the other. -/
theorem Fit.flatten : ∀ (kss : List (List (Option IntKind))) (cs : List Value), cs.length = kss.flatten.length →
    (∀ i ks, kss[i]? = some ks → Fit ks ((cs.drop ((kss.take i).map List.length).sum).take ks.length)) → Fit kss.flatten cs
  | [], cs, hl, _ => Fit.nil (by simpa using hl)
  | ks :: kss, cs, hl, h => by
    have h0 := h 0 ks rfl
    simp only [List.take_zero, List.map_nil, List.sum_nil, List.drop_zero] at h0
    rw [List.flatten_cons]
    refine Fit.append h0 (Fit.flatten kss _ ?_ fun i ks' hi => ?_)
    · simp only [List.flatten_cons, List.length_append] at hl
      rw [List.length_drop]
      omega
    · have := h (i + 1) ks' (by simpa using hi)
      simp only [List.take_succ_cons, List.map_cons, List.sum_cons] at this
      rw [List.drop_drop]
      exact this

theorem flat_len (len : Nat) (V : Nat → List Value) (c : Nat) (h : ∀ i, i < len → (V i).length = c) : ((List.range len).map V).flatten.length = len * c := by
  induction len with
  | zero => simp
  | succ n ih =>
    rw [List.range_succ, List.map_append, List.flatten_append, List.length_append, ih fun i hi => h i (by omega)]
    simp [h n (by omega), Nat.succ_mul]
theorem flat_at (len : Nat) (V : Nat → List Value) (c : Nat) (_ : 0 < c) (h : ∀ i, i < len → (V i).length = c) (q : Nat) (hq : q < len * c) : ((List.range len).map V).flatten[q]? = (V (q / c))[q % c]? := by
  induction len with
  | zero => simp at hq
  | succ n ih =>
    have hl := flat_len n V c fun i hi => h i (by omega)
    rw [List.range_succ, List.map_append, List.flatten_append]
    by_cases hlt : q < n * c
    · rw [List.getElem?_append_left (by omega), ih (fun i hi => h i (by omega)) hlt]
    · rw [List.getElem?_append_right (by omega), hl]
      have h1 : q / c = n := by
        apply Nat.div_eq_of_lt_le
        · omega
        · exact hq
      have h2 : q % c = q - n * c := by
        rw [Nat.mod_eq_sub_mul_div, h1, Nat.mul_comm]
      simp [h1, h2]

section
variable {H : Type} {enc : TypeId × Value → H} {P : Program} {w : World} {base : Nat} {spare : Nat → Bool} {held : Bool}

theorem flat_fits : ∀ (m : Nat) (t : TypeId) (ks : List (Option IntKind)) (fuel : Nat) (cs : List Value) (x : DataW H × List MemPlace),
    flat P m t = some ks → DataW.trod enc P w base spare held fuel t cs = some x → Fit ks cs := by
  intro m
  induction m with
  | zero => intro t ks fuel cs x h _; simp [flat] at h
  | succ m ih =>
    intro t ks fuel cs x h hx
    unfold flat at h
    split at h
    · rename_i hu
      obtain ⟨b, rfl, _⟩ := DataW.trod_bool hu hx
      injection h with h
      subst h
      exact ⟨⟨b, rfl⟩, trivial⟩
    · rename_i k hu
      obtain ⟨n, rfl, _, hn⟩ := DataW.trod_int hu hx
      injection h with h
      subst h
      exact ⟨⟨n, rfl, hn⟩, trivial⟩
    · rename_i n e hu
      split at h
      · rename_i ks' hk
        split at h
        · rename_i hc
          injection h with h
          subst h
          obtain ⟨xs, f, _, _, hl, hxl, hi⟩ := DataW.trod_array hu hx
          refine Fit.flatten _ _ (by simp [hl, hc.2]) fun i ks'' hi' => ?_
          have hin : i < n := by
            rcases Nat.lt_or_ge i n with hlt | hge
            · exact hlt
            · rw [List.getElem?_eq_none (by simpa using hge)] at hi'; cases hi'
          rw [List.getElem?_replicate, if_pos hin] at hi'
          injection hi' with hi'
          subst hi'
          have h1 := hi i hin
          rw [List.getElem?_eq_getElem (by omega), hc.1] at h1
          rw [show ((List.replicate n ks').take i |>.map List.length).sum = i * ks'.length by simp [List.take_replicate, Nat.min_eq_left (Nat.le_of_lt hin)]]
          exact ih e ks' f _ _ hk h1
        · cases h
      · cases h
    · rename_i fs hu
      split at h
      · rename_i kss hk
        split at h
        · rename_i hc
          injection h with h
          subst h
          obtain ⟨xs, f, _, _, hl, hxl, hi⟩ := DataW.trod_struct hu hx
          refine Fit.flatten _ _ (by rw [hl, hc.1]) fun i ks' hi' => ?_
          have hlen : kss.length = fs.toList.length := by
            have := congrArg List.length hc.2.1
            simpa using this.symm
          have hik : i < kss.length := by
            rcases Nat.lt_or_ge i kss.length with hlt | hge
            · exact hlt
            · rw [List.getElem?_eq_none hge] at hi'; cases hi'
          have hif : i < fs.toList.length := by omega
          have hf : fs[i]? = some fs.toList[i] := by
            rw [← Array.getElem?_toList]
            exact List.getElem?_eq_getElem hif
          have h1 := hi i _ hf
          have h2 := congrArg (fun l => l[i]?) hc.2.1
          have h3 := congrArg (fun l => l[i]?) hc.2.2
          simp only [List.getElem?_map, List.getElem?_eq_getElem hif, hi', Option.map_some, Option.some.injEq] at h2
          simp only [List.getElem?_map, List.getElem?_eq_getElem hif, List.getElem?_range hik, Option.map_some, Option.some.injEq] at h3
          have h4 : flat P m fs.toList[i].type = some ks' := mapM_at hk hif hi'
          rw [h2, h3, List.getElem?_eq_getElem (by simp at hif; omega)] at h1
          exact ih _ ks' f _ _ h4 h1
        · cases h
      · cases h
    · cases h

/-- A slice of flat elements: its elements' cells, one list an element; up to the length. -/
theorem open_flat_slice {t e : TypeId} {m : Nat} {ks : List (Option IntKind)} {a : Option Addr} {len cap : Nat} {d : DataW H} {p : List MemPlace} (ht : P.underlying t = some (.slice e)) (hk : flat P m e = some ks) (hc : P.cellsOf e = ks.length) (hpos : 0 < ks.length)
    (h : DataW.Trod enc P w base spare held t (.slice a len cap) d p) :
    ∃ xs : List (List Value), xs.length = len ∧ (∀ c ∈ xs, Fit ks c) ∧ Rd w a xs.flatten ∧ (a = none → len = 0 ∧ cap = 0) ∧ len ≤ cap ∧ cap ≤ maxLen := by
  obtain ⟨fuel, hf⟩ := h
  rcases open_slice ht hf with ⟨hcs, _⟩ | ⟨a', len', cap', m', n, D, Pl, hcs, _, hl, hm, hmm, _, hx⟩
  · simp [Value.cells] at hcs
    obtain ⟨rfl, rfl, rfl⟩ := hcs
    exact ⟨[], rfl, by simp, .inl rfl, fun _ => ⟨rfl, rfl⟩, Nat.le_refl _, by unfold maxLen; omega⟩
  · simp [Value.cells] at hcs
    obtain ⟨rfl, rfl, rfl⟩ := hcs
    have hlm : len ≤ m' := by rw [hmm]; split <;> omega
    obtain ⟨V, hV⟩ := choose_lt (α := List Value) (n := len) (p := fun i c => w.cells? base (a'.add (i * P.cellsOf e)) (P.cellsOf e) = some c ∧ Fit ks c) (fun i hi => by
      obtain ⟨c, h1, h2⟩ := hx i (by omega)
      exact ⟨c, h1, flat_fits m e ks _ _ _ hk h2⟩)
    have hfit : ∀ i, i < len → (V i).length = ks.length := fun i hi => (hV i hi).2.length
    refine ⟨(List.range len).map V, by simp, ?_, ?_, (fun h => by cases h), hl, hm⟩
    · intro c hc'
      obtain ⟨i, hi, rfl⟩ := List.mem_map.1 hc'
      exact (hV i (by simpa using hi)).2
    · by_cases h0 : len = 0
      · subst h0; exact .inl rfl
      obtain ⟨b, off, spot⟩ := a'
      have hcell : ∀ i, i < len → ∀ j, j < ks.length → w.cell? ((⟨b, off, spot⟩ : Addr).add (i * ks.length + j)) = (V i)[j]? := by
        intro i hi j hj
        obtain ⟨_, hlen, hat⟩ := World.cells?_some (hV i hi).1
        have := hat j (by rw [hc]; exact hj)
        rw [← this, hc, Go.Deep.add_add]
      have hs0 : spot = none := by
        have h1 := hcell 0 (by omega) 0 hpos
        have h2 : ((V 0)[0]?) = some ((V 0)[0]'(by rw [hfit 0 (by omega)]; exact hpos)) := List.getElem?_eq_getElem _
        rw [h2] at h1
        simpa [Addr.add] using World.cell?_spot h1
      subst hs0
      have hcell' : ∀ i, i < len → ∀ j, j < ks.length → w.cell? ⟨b, off + (i * ks.length + j), none⟩ = (V i)[j]? := by
        intro i hi j hj
        rw [← hcell i hi j hj]
        congr 1
        simp only [Addr.add]
        split <;> simp_all
      refine .inr ⟨b, off, rfl, ?_, ?_⟩
      · have h1 := hcell' 0 (by omega) 0 hpos
        have h2 : ((V 0)[0]?) = some ((V 0)[0]'(by rw [hfit 0 (by omega)]; exact hpos)) := List.getElem?_eq_getElem _
        rw [h2] at h1
        exact World.block_lt_of_cell? w _ h1
      · intro q v hq
        have hlen : ((List.range len).map V).flatten.length = len * ks.length := flat_len len V ks.length hfit
        have hql : q < len * ks.length := by
          rcases Nat.lt_or_ge q (len * ks.length) with h1 | h1
          · exact h1
          · rw [List.getElem?_eq_none (by omega)] at hq; cases hq
        have hi : q / ks.length < len := Nat.div_lt_of_lt_mul (by rw [Nat.mul_comm]; exact hql)
        have hj : q % ks.length < ks.length := Nat.mod_lt _ hpos
        have h1 := hcell' _ hi _ hj
        rw [show q / ks.length * ks.length + q % ks.length = q by rw [Nat.mul_comm]; exact Nat.div_add_mod q _] at h1
        rw [h1, ← hq]
        exact (flat_at len V ks.length hpos hfit q hql).symm
end


theorem fits_ints (k : IntKind) : ∀ (xs : List (List Value)), (∀ c ∈ xs, Fit [some k] c) → ∃ zs : List Int, zs.length = xs.length ∧ xs.flatten = zs.map (Value.int k) ∧ ∀ z ∈ zs, (Lit.int k z).wf = true
  | [], _ => ⟨[], rfl, rfl, by simp⟩
  | c :: xs, h => by
    obtain ⟨zs, hl, he, hw⟩ := fits_ints k xs fun c hc => h c (by simp [hc])
    have hc := h c (by simp)
    match c, hc with
    | [v], ⟨⟨n, hn, hwn⟩, _⟩ =>
      refine ⟨n :: zs, by simp [hl], by simp [he, hn], ?_⟩
      intro z hz
      rcases List.mem_cons.1 hz with rfl | hz
      · exact hwn
      · exact hw z hz
theorem fits_bools : ∀ (xs : List (List Value)), (∀ c ∈ xs, Fit [none] c) → ∃ zs : List Bool, zs.length = xs.length ∧ xs.flatten = zs.map Value.bool
  | [], _ => ⟨[], rfl, rfl⟩
  | c :: xs, h => by
    obtain ⟨zs, hl, he⟩ := fits_bools xs fun c hc => h c (by simp [hc])
    have hc := h c (by simp)
    match c, hc with
    | [v], ⟨⟨n, hn⟩, _⟩ => exact ⟨n :: zs, by simp [hl], by simp [he, hn]⟩

theorem wf_u8 {n : Int} (h : (Lit.int .u8 n).wf = true) : 0 ≤ n ∧ n < 256 := by
  simp [Lit.wf, IntKind.min, IntKind.max, IntKind.signed, IntKind.bits] at h
  omega
theorem fit_u8 : ∀ (n : Nat) (c : List Value), Fit (List.replicate n (some .u8)) c → ∃ l : List Nat, l.length = n ∧ c = bys l ∧ ∀ x ∈ l, x < 256
  | 0, c, h => by
    cases c with
    | nil => exact ⟨[], rfl, rfl, by simp⟩
    | cons v c => exact h.elim
  | n + 1, c, h => by
    rw [List.replicate_succ] at h
    cases c with
    | nil => exact h.elim
    | cons v c =>
      obtain ⟨⟨z, rfl, hz⟩, h2⟩ := h
      obtain ⟨l, hl, rfl, hb⟩ := fit_u8 n c h2
      have := wf_u8 hz
      refine ⟨z.toNat :: l, by simp [hl], ?_, ?_⟩
      · simp [bys, Int.toNat_of_nonneg this.1]
      · intro x hx
        rcases List.mem_cons.1 hx with rfl | hx
        · omega
        · exact hb x hx
theorem fits_u8 (n : Nat) : ∀ (xs : List (List Value)), (∀ c ∈ xs, Fit (List.replicate n (some .u8)) c) → ∃ l : List Nat, l.length = xs.length * n ∧ xs.flatten = bys l ∧ ∀ x ∈ l, x < 256
  | [], _ => ⟨[], by simp, rfl, by simp⟩
  | c :: xs, h => by
    obtain ⟨l, hl, he, hb⟩ := fits_u8 n xs fun c hc => h c (by simp [hc])
    obtain ⟨l0, hl0, he0, hb0⟩ := fit_u8 n c (h c (by simp))
    refine ⟨l0 ++ l, by rw [List.length_append, hl, hl0, List.length_cons, Nat.succ_mul, Nat.add_comm], ?_, ?_⟩
    · rw [List.flatten_cons, he, he0]
      simp [bys]
    · intro x hx
      rcases List.mem_append.1 hx with h1 | h1
      · exact hb0 x h1
      · exact hb x h1

section
variable {H : Type} {enc : TypeId × Value → H} {P : Program} {w : World} {base : Nat} {spare : Nat → Bool} {held : Bool}
theorem open_ints_flat {t e : TypeId} {k : IntKind} {a : Option Addr} {len cap : Nat} {d : DataW H} {p : List MemPlace} (ht : P.underlying t = some (.slice e)) (he : P.underlying e = some (.int k)) (hc : P.cellsOf e = 1)
    (h : DataW.Trod enc P w base spare held t (.slice a len cap) d p) :
    ∃ zs : List Int, zs.length = len ∧ Rd w a (zs.map (Value.int k)) ∧ (∀ z ∈ zs, (Lit.int k z).wf = true) ∧ (a = none → len = 0 ∧ cap = 0) ∧ len ≤ cap ∧ cap ≤ maxLen := by
  obtain ⟨xs, hl, hf, hr, h1, h2, h3⟩ := open_flat_slice (m := 1) (ks := [some k]) ht (by simp [flat, he]) (by simpa using hc) (by simp) h
  obtain ⟨zs, hz1, hz2, hz3⟩ := fits_ints k xs hf
  rw [hz2] at hr
  exact ⟨zs, hz1.trans hl, hr, hz3, h1, h2, h3⟩
theorem open_bytes {t e : TypeId} {a : Option Addr} {len cap : Nat} {d : DataW H} {p : List MemPlace} (ht : P.underlying t = some (.slice e)) (he : P.underlying e = some (.int .u8)) (hc : P.cellsOf e = 1)
    (h : DataW.Trod enc P w base spare held t (.slice a len cap) d p) :
    ∃ l : List Nat, l.length = len ∧ Rd w a (bys l) ∧ (∀ x ∈ l, x < 256) ∧ (a = none → len = 0 ∧ cap = 0) ∧ len ≤ cap ∧ cap ≤ maxLen := by
  obtain ⟨zs, hl, hr, hw, h1, h2, h3⟩ := open_ints_flat ht he hc h
  have hb : ∀ z ∈ zs, 0 ≤ z ∧ z < 256 := by
    intro z hz
    have := hw z hz
    simp [Lit.wf, IntKind.min, IntKind.max, IntKind.signed, IntKind.bits] at this
    omega
  refine ⟨zs.map Int.toNat, by simpa using hl, ?_, ?_, h1, h2, h3⟩
  · have : bys (zs.map Int.toNat) = zs.map (Value.int .u8) := by
      unfold bys
      rw [List.map_map]
      apply List.map_congr_left
      intro z hz
      have := hb z hz
      simp [Int.toNat_of_nonneg this.1]
    rw [this]
    exact hr
  · intro x hx
    obtain ⟨z, hz, rfl⟩ := List.mem_map.1 hx
    have := hb z hz
    omega
end

end Go.Proofs.Ytfigoeoimefngaa

/-
  Flat structs and arrays as arguments by value, over any program.
-/
namespace Go.Proofs.Ytfigoeoimefngaa
open Go.RowKit Go.ChangeShapes Go.WideShapes Go.ChangeAt Go.Deep

theorem okWide_array {P : Program} {w : World} {r : Reach} {base n : Nat} {t e : TypeId} {v : Value} (ht : P.underlying t = some (.array n e)) (h : Value.okWide P w r base t v) : ∃ cs, v = .agg cs ∧ cs.size = P.cellsOf t := by
  simp only [Value.okWide, ht] at h
  obtain ⟨cs, h1, h2, _⟩ := h
  exact ⟨cs, h1, h2⟩
section
variable {H : Type} {enc : TypeId × Value → H} {P : Program} {w : World} {base : Nat} {spare : Nat → Bool} {held : Bool}
theorem open_flat_struct {r : Reach} {b0 m : Nat} {t : TypeId} {fs : Array Field} {ks : List (Option IntKind)} {v : Value} {d : DataW H} {p : List MemPlace} (ht : P.underlying t = some (.struct fs)) (hk : flat P m t = some ks) (hv : Value.okWide P w r b0 t v) (h : DataW.Trod enc P w base spare held t v d p) :
    ∃ cs : List Value, v = .agg cs.toArray ∧ Fit ks cs := by
  obtain ⟨cs, rfl, _⟩ := okWide_struct ht hv
  obtain ⟨fuel, hf⟩ := h
  exact ⟨cs.toList, by simp, flat_fits _ _ _ _ _ _ hk hf⟩
theorem open_flat_array {r : Reach} {b0 m n : Nat} {t e : TypeId} {ks : List (Option IntKind)} {v : Value} {d : DataW H} {p : List MemPlace} (ht : P.underlying t = some (.array n e)) (hk : flat P m t = some ks) (hv : Value.okWide P w r b0 t v) (h : DataW.Trod enc P w base spare held t v d p) :
    ∃ cs : List Value, v = .agg cs.toArray ∧ Fit ks cs := by
  obtain ⟨cs, rfl, _⟩ := okWide_array ht hv
  obtain ⟨fuel, hf⟩ := h
  exact ⟨cs.toList, by simp, flat_fits _ _ _ _ _ _ hk hf⟩
end
theorem fit_kind {k : IntKind} : ∀ {n : Nat} {cs : List Value}, Fit (List.replicate n (some k)) cs → ∃ zs : List Int, zs.length = n ∧ cs = zs.map (Value.int k) ∧ ∀ z ∈ zs, (Lit.int k z).wf = true
  | 0, [], _ => ⟨[], rfl, rfl, by simp⟩
  | 0, _ :: _, h => h.elim
  | n + 1, [], h => by rw [List.replicate_succ] at h; exact h.elim
  | n + 1, v :: vs, h => by
    rw [List.replicate_succ] at h
    obtain ⟨⟨z, rfl, hz⟩, h2⟩ := h
    obtain ⟨zs, h3, h4, h5⟩ := fit_kind h2
    refine ⟨z :: zs, by simp [h3], by simp [h4], ?_⟩
    intro y hy
    rcases List.mem_cons.1 hy with rfl | hy
    · exact hz
    · exact h5 y hy
theorem two_of {l : List Int} (h : l.length = 2) : ∃ a b, l = [a, b] := by
  match l, h with
  | [a, b], _ => exact ⟨a, b, rfl⟩
theorem three_of {l : List Int} (h : l.length = 3) : ∃ a b c, l = [a, b, c] := by
  match l, h with
  | [a, b, c], _ => exact ⟨a, b, c, rfl⟩
theorem eightI_of {l : List Int} (h : l.length = 8) : ∃ a b c d e f g i, l = [a, b, c, d, e, f, g, i] := by
  match l, h with
  | [a, b, c, d, e, f, g, i], _ => exact ⟨a, b, c, d, e, f, g, i, rfl⟩
theorem nine_of {l : List Int} (h : l.length = 9) : ∃ v a b c d e f g i, l = [v, a, b, c, d, e, f, g, i] := by
  match l, h with
  | [v, a, b, c, d, e, f, g, i], _ => exact ⟨v, a, b, c, d, e, f, g, i, rfl⟩
end Go.Proofs.Ytfigoeoimefngaa
