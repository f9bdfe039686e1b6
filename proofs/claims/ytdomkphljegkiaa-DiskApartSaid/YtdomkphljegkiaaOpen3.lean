/-
  Slices of whatever elements, opened to their cells, a list an element.
-/
import Derived.Test.YtdomkphljegkiaaOpen
namespace Go.Proofs.Ytdomkphljegkiaa
open Go.RowKit Go.ChangeShapes Go.WideShapes Go.ChangeAt Go.Deep
section
variable {H : Type} {enc : TypeId × Value → H} {P : Program} {w : World} {base : Nat} {spare : Nat → Bool} {held : Bool}
theorem open_rows {t e : TypeId} {k : Nat} {G : List Value → Prop} {a : Option Addr} {len cap : Nat} {d : DataW H} {p : List MemPlace} (ht : P.underlying t = some (.slice e)) (hc : P.cellsOf e = k) (hpos : 0 < k) (hk : ∀ c, G c → c.length = k)
    (hG : ∀ fuel c x, DataW.trod enc P w base spare held fuel e c = some x → G c) (h : DataW.Trod enc P w base spare held t (.slice a len cap) d p) :
    ∃ xs : List (List Value), xs.length = len ∧ (∀ c ∈ xs, G c) ∧ Rd w a xs.flatten ∧ (a = none → len = 0 ∧ cap = 0) ∧ len ≤ cap ∧ cap ≤ maxLen := by
  obtain ⟨fuel, hf⟩ := h
  rcases open_slice ht hf with ⟨hcs, _⟩ | ⟨a', len', cap', m', n, D, Pl, hcs, _, hl, hm, hmm, _, hx⟩
  · simp [Value.cells] at hcs
    obtain ⟨rfl, rfl, rfl⟩ := hcs
    exact ⟨[], rfl, by simp, .inl rfl, fun _ => ⟨rfl, rfl⟩, Nat.le_refl _, by unfold maxLen; omega⟩
  · simp [Value.cells] at hcs
    obtain ⟨rfl, rfl, rfl⟩ := hcs
    have hlm : len ≤ m' := by rw [hmm]; split <;> omega
    obtain ⟨V, hV⟩ := choose_lt (α := List Value) (n := len) (p := fun i c => w.cells? base (a'.add (i * P.cellsOf e)) (P.cellsOf e) = some c ∧ G c) (fun i hi => by
      obtain ⟨c, h1, h2⟩ := hx i (by omega)
      exact ⟨c, h1, hG _ _ _ h2⟩)
    have hfit : ∀ i, i < len → (V i).length = k := fun i hi => hk _ (hV i hi).2
    refine ⟨(List.range len).map V, by simp, ?_, ?_, (fun h => by cases h), hl, hm⟩
    · intro c hc'
      obtain ⟨i, hi, rfl⟩ := List.mem_map.1 hc'
      exact (hV i (by simpa using hi)).2
    · by_cases h0 : len = 0
      · subst h0; exact .inl rfl
      obtain ⟨b, off, spot⟩ := a'
      have hcell : ∀ i, i < len → ∀ j, j < k → w.cell? ((⟨b, off, spot⟩ : Addr).add (i * k + j)) = (V i)[j]? := by
        intro i hi j hj
        obtain ⟨_, hlen, hat⟩ := World.cells?_some (hV i hi).1
        have := hat j (by rw [hc]; exact hj)
        rw [← this, hc, Go.Deep.add_add]
      have hs0 : spot = none := by
        have h1 := hcell 0 (by omega) 0 hpos
        have h2 : ((V 0)[0]?) = some ((V 0)[0]'(by rw [hfit 0 (by omega)]; exact hpos)) := List.getElem?_eq_getElem _
        rw [h2] at h1
        simpa [Addr.add] using World.cell?_spot h1
      subst hs0
      have hcell' : ∀ i, i < len → ∀ j, j < k → w.cell? ⟨b, off + (i * k + j), none⟩ = (V i)[j]? := by
        intro i hi j hj
        rw [← hcell i hi j hj]
        congr 1
        simp only [Addr.add]
        split <;> simp_all
      refine .inr ⟨b, off, rfl, ?_, ?_⟩
      · have h1 := hcell' 0 (by omega) 0 hpos
        have h2 : ((V 0)[0]?) = some ((V 0)[0]'(by rw [hfit 0 (by omega)]; exact hpos)) := List.getElem?_eq_getElem _
        rw [h2] at h1
        exact World.block_lt_of_cell? w _ h1
      · intro q v hq
        have hlen : ((List.range len).map V).flatten.length = len * k := flat_len len V k hfit
        have hql : q < len * k := by
          rcases Nat.lt_or_ge q (len * k) with h1 | h1
          · exact h1
          · rw [List.getElem?_eq_none (by omega)] at hq; cases hq
        have hi : q / k < len := Nat.div_lt_of_lt_mul (by rw [Nat.mul_comm]; exact hql)
        have hj : q % k < k := Nat.mod_lt _ hpos
        have h1 := hcell' _ hi _ hj
        rw [show q / k * k + q % k = q by rw [Nat.mul_comm]; exact Nat.div_add_mod q _] at h1
        rw [h1, ← hq]
        exact (flat_at len V k hpos hfit q hql).symm
/-- One cell that reads as a slice is a slice. -/
theorem trod_sl {t e : TypeId} {fuel : Nat} {v : Value} {x : DataW H × List MemPlace} (ht : P.underlying t = some (.slice e)) (h : DataW.trod enc P w base spare held fuel t [v] = some x) : ∃ a len cap, v = .slice a len cap ∧ DataW.Trod enc P w base spare held t (.slice a len cap) x.1 x.2 := by
  rcases DataW.trod_slice ht h with ⟨h0, _⟩ | ⟨a, len, cap, _, _, _, _, h0, _⟩
  · injection h0 with h0
    subst h0
    exact ⟨none, 0, 0, rfl, fuel, h⟩
  · injection h0 with h0
    subst h0
    exact ⟨some a, len, cap, rfl, fuel, h⟩
end
end Go.Proofs.Ytdomkphljegkiaa
