/-
  m[key] = f(m[key], ..): the entry, then the store into it.
-/
import Derived.Test.YtpllcjggjjapoaaMp
import Derived.WideKeyEntry
namespace Go.Proofs.Ytpllcjggjjapoaa
open Go.RowKit Go.Maps Go.ChangeMaps Go.MapKept Go.WideElems
open Go.WideMaps (KeyLaw)

section
variable {P : Program} {k : TypeId} {w : World} {m : Nat} {f : Lit → Option Value}
/-- The entry's element; what the store into the entry leaves, in whatever world the map's block lies as the entry left it. -/
theorem Mp.entry {t e : TypeId} (h : Mp P k w m f) (K : KeyLaw P k) (ht : P.underlying t = some (.map k e)) {z : Value} (hz : ∀ u : World, (zeroValue e).run P u = .ok z u) (L : List Lit) (hL : ∀ kl, (f kl).isSome = true → kl ∈ L) (hn : L.length < maxLen) {key : Value} {kl : Lit} (hkey : keyOf P k key = some kl) :
    ∃ (st : Value) (o : Obj), (Instr.mapEntry t (.map (some m)) key).run P w = .ok (.tuple #[(f kl).getD z, st]) (setBlock w m o) ∧
      ∀ (w2 : World) (val : Value), w2.heap[m]? = some o → ∃ o', (Instr.entryStore t (.map (some m)) st val).run P w2 = .ok () (setBlock w2 m o') ∧ Mp P k (setBlock w2 m o') m (upd f kl val) := by
  have hlook := h.look (Keyed.of_law K) ht (hz w) hkey
  have hst := fun val => h.store (Keyed.of_law K) ht L hL hn (v := val) hkey
  obtain ⟨D, ⟨es, clock, hb, F, _⟩, _⟩ := h
  obtain ⟨v0, st, es1, c1, hrun, hv, hs⟩ := entry_then_store K ht hz hb F hkey
  refine ⟨goInt st, .map es1 c1, ?_, fun w2 val hw2 => ?_⟩
  · have : (f kl).getD z = v0 := by
      rcases K.find w hkey es.toList F.keys with ⟨h1, h2⟩ | ⟨j, e0, h1, h2, h3⟩
      · have e1 : (Instr.lookup t (.map (some m)) key false).run P w = .ok z w := by
          simp [Instr.lookup, run_underlying ht, MapKept.run_getObj_map hb, K.check w es.isEmpty hkey, h1, hz, Result.andThen]
        rw [hlook] at e1
        injection e1 with e1
        rcases hv with ⟨e0, he0, h3, _⟩ | ⟨_, h4⟩
        · exact absurd h3 (h2 e0 he0)
        · rw [e1, h4]
      · have e1 : (Instr.lookup t (.map (some m)) key false).run P w = .ok e0.val w := by
          simp [Instr.lookup, run_underlying ht, MapKept.run_getObj_map hb, K.check w es.isEmpty hkey, h1, Result.andThen]
        rw [hlook] at e1
        injection e1 with e1
        have hj : es[j]? = some e0 := by simpa using h2
        have e2 : (Instr.mapEntry t (.map (some m)) key).run P w = .ok (.tuple #[e0.val, goInt e0.born]) (setBlock w m (.map (es.modify j (fun e => { e with key := key })) clock)) := by
          simp [Instr.mapEntry, run_underlying ht, MapKept.run_getObj_map hb, K.check w false hkey, h1, hj, h3, K.stays w hkey, MapKept.run_setObj_map _ hb, Result.andThen, setBlock]
        rw [hrun] at e2
        injection e2 with e2 _
        injection e2 with e2
        have e3 := congrArg (fun a : Array Value => a[0]?) e2
        simp at e3
        rw [e1, ← e3]
    rw [this]
    exact hrun
  · obtain ⟨es', c', h1, h2⟩ := hs w2 val hw2
    obtain ⟨w', h3, h4, _⟩ := hst val
    rw [h3] at h2
    injection h2 with _ h2
    subst h2
    refine ⟨.map es' c', h1, h4.same ?_⟩
    have e1 : (setBlock w2 m (.map es' c')).heap[m]? = some (.map es' c') := heap_setBlock_same hw2 _
    have e2 : (setBlock w m (.map es' c')).heap[m]? = some (.map es' c') := heap_setBlock_same hb _
    rw [e1, e2]
end
end Go.Proofs.Ytpllcjggjjapoaa
