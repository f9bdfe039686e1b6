/-
  Maps over keys of any kind; what a write wrote, as a key.
-/
import Derived.Test.YtfigoeoimefngaaZa
import Derived.Test.YtfigoeoimefngaaSnA
namespace Go.Proofs.Ytfigoeoimefngaa
open Go.RowKit Go.Maps Go.ChangeMaps Go.MapKept Go.WideElems

/-- Keys of a kind: how they read. -/
structure Ks {α : Type} (P : Program) (k : TypeId) (ok : α → Prop) (v : α → Value) (lit : α → Lit) : Prop where
  law : Keyed P k
  key : ∀ a, ok a → keyOf P k (v a) = some (lit a)
  inj : ∀ a b, v a = v b → a = b
/-- A map of keys: those of N, each with f's value. -/
def fK {α : Type} (lit : α → Lit) (N : List α) (f : α → Value) : Lit → Option Value := fun kl => (N.find? fun n => kl.sameKey (lit n)).map f
section
variable {α : Type} {P : Program} {k : TypeId} {ok : α → Prop} {v : α → Value} {lit : α → Lit}
theorem Ks.keyed (K : Ks P k ok v lit) : Keyed P k := K.law
theorem Ks.lit_inj (K : Ks P k ok v lit) {a b : α} (ha : ok a) (hb : ok b) (h : lit a = lit b) : a = b := by
  have h1 := K.key a ha
  have h2 := K.key b hb
  rw [← h] at h2
  exact K.inj a b (K.keyed.inj h1 h2)
theorem Ks.same (K : Ks P k ok v lit) {a : α} (ha : ok a) : (lit a).sameKey (lit a) = true := WideAt.sameKey_self (K.keyed.key (K.key a ha))
theorem Ks.other (K : Ks P k ok v lit) {a b : α} (ha : ok a) (hb : ok b) (h : a ≠ b) : (lit a).sameKey (lit b) = false := sameKey_ne (fun e => h (K.lit_inj ha hb e))
theorem Ks.at (K : Ks P k ok v lit) {N : List α} (hN : ∀ n ∈ N, ok n) (f : α → Value) {n : α} (hn : ok n) {z : Value} (hz : n ∉ N → f n = z) : (fK lit N f (lit n)).getD z = f n := by
  induction N with
  | nil => exact (hz (by simp)).symm
  | cons y N ih =>
    unfold fK
    rw [List.find?_cons]
    by_cases h : y = n
    · subst h
      rw [K.same hn]
      rfl
    · rw [K.other hn (hN y (by simp)) (Ne.symm h)]
      have := ih (fun z hz => hN z (by simp [hz])) (fun hm => hz (by simp [hm, Ne.symm h]))
      unfold fK at this
      exact this
theorem fK_upd {N : List α} (f : α → Value) {n : α} (u : Value) (f' : α → Value) (h1 : f' n = u) (h2 : ∀ y, y ≠ n → f' y = f y) : upd (fK lit N f) (lit n) u = fK lit (n :: N) f' := by
  funext kl
  unfold upd fK
  rw [List.find?_cons]
  by_cases h : kl.sameKey (lit n) = true
  · rw [if_pos h, h]; simp [h1]
  · rw [if_neg h]
    simp only [Bool.not_eq_true] at h
    rw [h]
    cases hf : N.find? fun n => kl.sameKey (lit n) with
    | none => rfl
    | some y =>
      have hy := List.find?_some hf
      have hne : y ≠ n := fun e => by subst e; rw [h] at hy; cases hy
      simp [h2 y hne]
theorem fK_mem {N : List α} {f : α → Value} (kl : Lit) (h : (fK lit N f kl).isSome = true) : kl ∈ N.map lit := by
  unfold fK at h
  rw [Option.isSome_map] at h
  obtain ⟨p, hp⟩ := Option.isSome_iff_exists.1 h
  have hs := List.find?_some hp
  exact List.mem_map.2 ⟨p, List.mem_of_find?_eq_some hp, (WideAt.sameKey_eq hs).symm⟩

/-- A map at block m: at every key f's value; of at most c keys. -/
def KM (P : Program) (k : TypeId) (ok : α → Prop) (lit : α → Lit) (z : Value) (w : World) (m c : Nat) (f : α → Value) : Prop :=
  ∃ N : List α, N.length ≤ c ∧ (∀ n ∈ N, ok n) ∧ (∀ a, a ∉ N → f a = z) ∧ Mp P k w m (fK lit N f)
variable {w w' : World} {m c : Nat} {f : α → Value} {z : Value}
theorem KM.same (h : KM P k ok lit z w m c f) (hb : w'.heap[m]? = w.heap[m]?) : KM P k ok lit z w' m c f := by
  obtain ⟨N, h1, h2, h3, h4⟩ := h
  exact ⟨N, h1, h2, h3, h4.same hb⟩
theorem KM.grows (h : KM P k ok lit z w m c f) (hg : Grows w w') : KM P k ok lit z w' m c f := by
  obtain ⟨N, h1, h2, h3, h4⟩ := h
  exact ⟨N, h1, h2, h3, h4.grows hg⟩
theorem KM.lt (h : KM P k ok lit z w m c f) : m < w.heap.size := by
  obtain ⟨N, h1, h2, h3, h4⟩ := h
  exact h4.lt
theorem KM.block (h : KM P k ok lit z w m c f) : ∃ es clock, w.heap[m]? = some (.map es clock) := by
  obtain ⟨N, h1, h2, h3, h4⟩ := h
  exact h4.block
theorem KM.made (P : Program) (k : TypeId) (ok : α → Prop) (lit : α → Lit) (z : Value) (w : World) : KM P k ok lit z (w.alloc (.map #[] 0)) w.heap.size 0 (fun _ => z) :=
  ⟨[], Nat.le_refl _, (fun _ h => by cases h), (fun _ _ => rfl), Mp.made w P k⟩
theorem KM.look (h : KM P k ok lit z w m c f) (K : Ks P k ok v lit) {t e : TypeId} (ht : P.underlying t = some (.map k e)) (hz : (zeroValue e).run P w = .ok z w) {a : α} (ha : ok a) :
    (Instr.lookup t (.map (some m)) (v a) false).run P w = .ok (f a) w := by
  obtain ⟨N, h1, h2, h3, h4⟩ := h
  rw [h4.look K.keyed ht hz (K.key a ha), K.at h2 f ha (h3 a)]
theorem KM.store (h : KM P k ok lit z w m c f) (K : Ks P k ok v lit) {t e : TypeId} (ht : P.underlying t = some (.map k e)) (hc : c < maxLen) {a : α} (ha : ok a) (u : Value) (f' : α → Value) (e1 : f' a = u) (e2 : ∀ y, y ≠ a → f' y = f y) :
    ∃ o, (Instr.mapUpdate t (.map (some m)) (v a) u).run P w = .ok () (setBlock w m o) ∧ KM P k ok lit z (setBlock w m o) m (c + 1) f' := by
  obtain ⟨N, h1, h2, h3, h4⟩ := h
  obtain ⟨w2, hr, hm, ht2⟩ := h4.store K.keyed ht (N.map lit) fK_mem (by rw [List.length_map]; omega) (v := u) (K.key a ha)
  obtain ⟨es, clock, es', clock', _, rfl⟩ := ht2
  refine ⟨_, hr, a :: N, by simp; omega, ?_, ?_, ?_⟩
  · intro n hn
    rcases List.mem_cons.1 hn with rfl | hn
    · exact ha
    · exact h2 n hn
  · intro y hy
    simp only [List.mem_cons, not_or] at hy
    rw [e2 y hy.1]
    exact h3 y hy.2
  · rw [← fK_upd f u f' e1 e2]
    exact hm
end
set_option maxRecDepth 100000 in
theorem nameKL : Go.WideMaps.KeyLaw Try.prog 29 := deep_law_laid laidOut (m := 2) (by omega) nameRow (by kernel_rfl) nameWide
theorem kNm : Ks Try.prog 29 Nm.ok Nm.v Nm.lit := ⟨nameLaw, name_key, fun a b h => by
  unfold Nm.v at h
  cases a
  cases b
  simp at h
  simp [h]⟩
theorem kInt : Ks Try.prog 3 inI (fun z => .int .i64 z) (Lit.int .i64) := ⟨int_keyed Try.underlying3, fun z h => keyOf_int_mk Try.underlying3 (wfI h), fun a b h => by injection h⟩
theorem Grows.turn {w W : World} (h : Grows w W) {m : Nat} (hm : w.heap.size ≤ m) (o : Obj) : Grows w (setBlock W m o) := ⟨h.os, h.tape, h.output, by simp [setBlock]; exact h.size, fun j hj => by
  have : (setBlock W m o).heap[j]? = W.heap[j]? := by simp [setBlock, show ¬ m = j by omega]
  rw [this]
  exact h.block j hj⟩
theorem turn_ne {W : World} {m j : Nat} (o : Obj) (h : j ≠ m) : (setBlock W m o).heap[j]? = W.heap[j]? := by simp [setBlock, Ne.symm h]
theorem turn_size {W : World} {m : Nat} (o : Obj) : (setBlock W m o).heap.size = W.heap.size := by simp [setBlock]
theorem At.turn {W : World} {g m : Nat} {t : TypeId} {cs : Array Value} (h : At W g t cs) (hm : g ≠ m) (o : Obj) : At (setBlock W m o) g t cs := (turn_ne o hm).trans h
end Go.Proofs.Ytfigoeoimefngaa
