/-
  x[i] of an array value, over any program.
-/
import Derived.Test.YtmcofmidpedkiaaFlat
import Derived.Deep.MidRow
namespace Go.Proofs.Ytmcofmidpedkiaa
open Go.RowKit

/-- x[i] of an array of flat elements. -/
theorem run_index_flat {P : Program} (w : World) {f : Nat} {t e : TypeId} {n : Nat} {ks : List (Option IntKind)} (ht : P.underlying t = some (.array n e)) (h : flatQ P f e = some ks) (hs : (P.info? e).map (·.size) = some ks.length) (kd : IntKind) (cs : List Value) (i : Nat) (hi : i < n) (hl : cs.length = n * ks.length) :
    (Instr.index t (.agg cs.toArray) (.int kd (i : Int))).run P w = .ok (mkV P e ((cs.drop (i * ks.length)).take ks.length)) w := by
  have hb : i * ks.length + ks.length ≤ cs.length := by
    rw [hl, ← Nat.succ_mul]
    exact Nat.mul_le_mul_right _ hi
  obtain ⟨inf, hif, hsz⟩ : ∃ j, P.info? e = some j ∧ j.size = ks.length := by
    cases hq : P.info? e with
    | none => rw [hq] at hs; cases hs
    | some j => rw [hq] at hs; exact ⟨j, rfl, by simpa using hs⟩
  have hp := part_flat w h hs cs (i * ks.length) hb
  simp [Instr.index, asIntOf, run_underlying ht, sizeOf, typeInfo, hif, hsz, hi, hp]
/-- x[i] of an array of integers. -/
theorem run_index_ints {P : Program} (w : World) {t e : TypeId} {n : Nat} {k : IntKind} (ht : P.underlying t = some (.array n e)) (he : P.underlying e = some (.int k)) (hs : (P.info? e).map (·.size) = some 1) (kd : IntKind) (zs : List Int) (i : Nat) (hi : i < n) (hl : zs.length = n) :
    (Instr.index t (.agg (zs.map (Value.int k)).toArray) (.int kd (i : Int))).run P w = .ok (.int k (zs.getD i 0)) w := by
  rw [run_index_flat (f := 1) (ks := [some k]) w ht (by simp [flatQ, he]) hs kd _ i hi (by simp [hl])]
  have hz : i < zs.length := by omega
  simp [mkV, he, List.getElem?_eq_getElem hz, List.head?_take, List.head?_drop, List.headD_eq_head?_getD]

section
variable {P : Program} (w : World) {t e : TypeId} {n : Nat} (ht : P.underlying t = some (.array n e))
include ht
/-- a[:h], a[:] of an array variable. -/
theorem run_sliceAt_h (hs : (P.info? e).isSome = true) (a : Addr) (k : IntKind) (h : Nat) (hh : h ≤ n) : (Instr.sliceAt t (.pointer (some a)) none (some (.int k (h : Int))) none).run P w = .ok (.slice (some a) h n) w := by
  obtain ⟨i, hi⟩ := Option.isSome_iff_exists.1 hs
  have h0 : (0 : Int) ≤ (h : Int) := by omega
  have h1 : (h : Int) ≤ (n : Int) := by omega
  simp [Instr.sliceAt, run_underlying ht, Instr.sureAddr, Instr.sliceBounds, run_sliceBound w k (h : Int) n _ h0 h1, sizeOf, typeInfo, hi, Addr.add]
theorem run_sliceAt_all (hs : (P.info? e).isSome = true) (a : Addr) : (Instr.sliceAt t (.pointer (some a)) none none none).run P w = .ok (.slice (some a) n n) w := by
  obtain ⟨i, hi⟩ := Option.isSome_iff_exists.1 hs
  simp [Instr.sliceAt, run_underlying ht, Instr.sureAddr, Instr.sliceBounds, sizeOf, typeInfo, hi, Addr.add]
/-- a[l:h] of an array variable. -/
theorem run_sliceAt_lh (sz : Nat) (hs : (P.info? e).map (·.size) = some sz) (g o : Nat) (k k' : IntKind) (l h : Nat) (hl : l ≤ h) (hh : h ≤ n) : (Instr.sliceAt t (.pointer (some ⟨g, o, none⟩)) (some (.int k (l : Int))) (some (.int k' (h : Int))) none).run P w = .ok (.slice (some (if n = l then ⟨g, o, none⟩ else ⟨g, o + l * sz, none⟩)) (h - l) (n - l)) w := by
  obtain ⟨i, hi, hsz⟩ : ∃ j, P.info? e = some j ∧ j.size = sz := by
    cases hq : P.info? e with
    | none => rw [hq] at hs; cases hs
    | some j => rw [hq] at hs; exact ⟨j, rfl, by simpa using hs⟩
  have h0 : (0 : Int) ≤ (h : Int) := by omega
  have h1 : (h : Int) ≤ (n : Int) := by omega
  have h2 : (0 : Int) ≤ (l : Int) := by omega
  have h3 : (l : Int) ≤ (h : Int) := by omega
  simp only [Instr.sliceAt, run_underlying ht, Instr.sureAddr, Instr.sliceBounds, run_sliceBound w k' (h : Int) n _ h0 h1, run_sliceBound w k (l : Int) h _ h2 h3, sizeOf, typeInfo, Sem.run_bind, Sem.run_pure, Result.andThen_ok, Int.toNat_natCast, run_program, hi, hsz]
  rw [Addr.add_mid]
end
end Go.Proofs.Ytmcofmidpedkiaa
