/-
  '==' on arrays.
-/
import Derived.Test.YtpllcjggjjapoaaBase
import Derived.Laws.StructEq
namespace Go.Proofs.Ytpllcjggjjapoaa
open Go.RowKit
section
variable {P : Program} (w : World)

theorem run_eq_array (d : Nat) (t e : TypeId) (n s : Nat) (xs ys : Array Value) (ht : P.underlying t = some (.array n e)) (hs : (sizeOf e).run P w = .ok s w)
    (u v : Nat → Value) (q : Nat → Bool) (hu : ∀ i, i < n → (part e xs (i * s)).run P w = .ok (u i) w) (hv : ∀ i, i < n → (part e ys (i * s)).run P w = .ok (v i) w) (hq : ∀ i, i < n → (Op.equalIn d e (u i) (v i)).run P w = .ok (q i) w) :
    (Op.equalIn (d + 1) t (.agg xs) (.agg ys)).run P w = .ok ((List.range n).all q) w := by
  simp only [Op.equalIn, Sem.run_bind, run_underlying ht, Result.andThen_ok, hs]
  rw [Std.Legacy.Range.forIn_eq_forIn_range']
  simp only [Std.Legacy.Range.size, Nat.sub_zero, Nat.add_one_sub_one, Nat.div_one]
  have key : ∀ (l : List Nat), (∀ i ∈ l, i < n) →
      Sem.run P (forIn l ((none : Option Bool), ()) fun i __s => do
        let a ← part e xs (i * s)
        let b ← part e ys (i * s)
        let c ← Op.equalIn d e a b
        if (!c) = true then pure (ForInStep.done (some false, ())) else pure (ForInStep.yield ((none : Option Bool), ()))) w = .ok (if l.all q then (none, ()) else (some false, ())) w := by
    intro l
    induction l with
    | nil => intro _; simp
    | cons i l ih =>
      intro h
      have hi := h i (by simp)
      simp only [List.forIn_cons, Sem.run_bind, hu i hi, hv i hi, hq i hi, Result.andThen_ok]
      cases hqi : q i
      · simp [hqi]
      · have := ih fun j hj => h j (by simp [hj])
        simp only [Bool.not_true, Bool.false_eq_true, if_false, Sem.run_pure, Result.andThen_ok, List.all_cons, hqi, Bool.true_and]
        exact this
  rw [← List.range_eq_range', key (List.range n) (by simp)]
  cases (List.range n).all q <;> simp

/-- Arrays of integers. -/
theorem run_eq_ints (d : Nat) (t e : TypeId) (n : Nat) (k : IntKind) (zs ys : List Int) (ht : P.underlying t = some (.array n e)) (he : P.underlying e = some (.int k)) (hs : (sizeOf e).run P w = .ok 1 w) (ha : (isAgg e).run P w = .ok false w) (hz : zs.length = n) (hy : ys.length = n) :
    (Op.equalIn (d + 2) t (.agg (zs.map (Value.int k)).toArray) (.agg (ys.map (Value.int k)).toArray)).run P w = .ok (zs == ys) w := by
  have hp : ∀ (l : List Int), l.length = n → ∀ i, i < n → (part e (l.map (Value.int k)).toArray (i * 1)).run P w = .ok (.int k (l.getD i 0)) w := by
    intro l hl i hi
    unfold part
    simp only [Sem.run_bind, ha, Result.andThen_ok, Bool.false_eq_true, if_false, Nat.mul_one]
    have : (l.map (Value.int k)).toArray[i]? = some (.int k (l.getD i 0)) := by
      simp [List.getElem?_eq_getElem (show i < l.length by omega)]
    rw [this]
    rfl
  rw [run_eq_array w (d + 1) t e n 1 _ _ ht hs (fun i => .int k (zs.getD i 0)) (fun i => .int k (ys.getD i 0)) (fun i => zs.getD i 0 == ys.getD i 0) (hp zs hz) (hp ys hy) (fun i _ => run_equalIn_int w d e k k _ _ he)]
  congr 1
  rw [Bool.eq_iff_iff]
  simp only [List.all_eq_true, List.mem_range, beq_iff_eq]
  constructor
  · intro h
    apply List.ext_getElem (by omega)
    intro i h1 h2
    have := h i (by omega)
    simpa [List.getElem?_eq_getElem h1, List.getElem?_eq_getElem h2] using this
  · intro h i _
    rw [h]

theorem run_eql_ints (t e : TypeId) (n : Nat) (k : IntKind) (zs ys : List Int) (ht : P.underlying t = some (.array n e)) (he : P.underlying e = some (.int k)) (hs : (sizeOf e).run P w = .ok 1 w) (ha : (isAgg e).run P w = .ok false w) (hz : zs.length = n) (hy : ys.length = n) :
    (binOp .eql t (.agg (zs.map (Value.int k)).toArray) (.agg (ys.map (Value.int k)).toArray)).run P w = .ok (.bool (zs == ys)) w := by
  rw [run_eql_struct, run_eq_ints w 9998 t e n k zs ys ht he hs ha hz hy]
  rfl
theorem run_neq_ints (t e : TypeId) (n : Nat) (k : IntKind) (zs ys : List Int) (ht : P.underlying t = some (.array n e)) (he : P.underlying e = some (.int k)) (hs : (sizeOf e).run P w = .ok 1 w) (ha : (isAgg e).run P w = .ok false w) (hz : zs.length = n) (hy : ys.length = n) :
    (binOp .neq t (.agg (zs.map (Value.int k)).toArray) (.agg (ys.map (Value.int k)).toArray)).run P w = .ok (.bool !(zs == ys)) w := by
  rw [run_neq_struct, run_eq_ints w 9998 t e n k zs ys ht he hs ha hz hy]
  rfl
end
end Go.Proofs.Ytpllcjggjjapoaa
