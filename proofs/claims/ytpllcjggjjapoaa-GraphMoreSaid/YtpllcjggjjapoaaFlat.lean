/-
  '==' on flat values (integers, bools, structs and arrays of them), over any program: cell by cell.
-/
import Derived.Test.YtpllcjggjjapoaaEq
namespace Go.Proofs.Ytpllcjggjjapoaa
open Go.RowKit

def cellEq : Value → Value → Bool
  | .int _ a, .int _ b => a == b
  | .bool a, .bool b => a == b
  | _, _ => false
def cellsEq : List Value → List Value → Bool
  | [], [] => true
  | x :: xs, y :: ys => cellEq x y && cellsEq xs ys
  | _, _ => false
def OfKind (k : Option IntKind) (v : Value) : Prop :=
  match k with
  | some k => ∃ n, v = .int k n
  | none => ∃ b, v = .bool b
def OfKinds : List (Option IntKind) → List Value → Prop
  | [], [] => True
  | k :: ks, v :: vs => OfKind k v ∧ OfKinds ks vs
  | _, _ => False

theorem OfKinds.length : ∀ {ks : List (Option IntKind)} {cs : List Value}, OfKinds ks cs → cs.length = ks.length
  | [], [], _ => rfl
  | _ :: _, _ :: _, h => by simp [OfKinds.length h.2]
  | [], _ :: _, h => h.elim
  | _ :: _, [], h => h.elim
theorem OfKinds.split : ∀ {ks ks' : List (Option IntKind)} {cs : List Value}, OfKinds (ks ++ ks') cs → OfKinds ks (cs.take ks.length) ∧ OfKinds ks' (cs.drop ks.length)
  | [], _, _, h => by simpa [OfKinds] using h
  | k :: ks, ks', [], h => h.elim
  | k :: ks, ks', v :: vs, h => by
    have h2 := OfKinds.split (ks := ks) (ks' := ks') (cs := vs) h.2
    exact ⟨by simp only [List.length_cons, List.take_succ_cons]; exact ⟨h.1, h2.1⟩, by simpa using h2.2⟩
theorem OfKinds.join : ∀ {ks ks' : List (Option IntKind)} {a b : List Value}, OfKinds ks a → OfKinds ks' b → OfKinds (ks ++ ks') (a ++ b)
  | [], _, [], _, _, h => h
  | [], _, _ :: _, _, h, _ => h.elim
  | _ :: _, _, [], _, h, _ => h.elim
  | _ :: _, _, _ :: _, _, h, h' => ⟨h.1, OfKinds.join h.2 h'⟩
theorem cellsEq_append : ∀ {a a' b b' : List Value}, a.length = a'.length → cellsEq (a ++ b) (a' ++ b') = (cellsEq a a' && cellsEq b b')
  | [], [], _, _, _ => by simp [cellsEq]
  | x :: a, y :: a', b, b', h => by
    simp only [List.cons_append, cellsEq, Bool.and_assoc]
    rw [cellsEq_append (by simpa using h)]
theorem cellEq_iff {k : Option IntKind} {a b : Value} (ha : OfKind k a) (hb : OfKind k b) : cellEq a b = true ↔ a = b := by
  cases k with
  | none => obtain ⟨x, rfl⟩ := ha; obtain ⟨y, rfl⟩ := hb; simp [cellEq]
  | some k => obtain ⟨x, rfl⟩ := ha; obtain ⟨y, rfl⟩ := hb; simp [cellEq]
theorem cellsEq_iff : ∀ {ks : List (Option IntKind)} {a b : List Value}, OfKinds ks a → OfKinds ks b → (cellsEq a b = true ↔ a = b)
  | [], [], [], _, _ => by simp [cellsEq]
  | k :: ks, x :: a, y :: b, h, h' => by
    rw [cellsEq, Bool.and_eq_true, cellEq_iff h.1 h'.1, cellsEq_iff h.2 h'.2, List.cons.injEq]
  | [], _ :: _, _, h, _ => h.elim
  | [], [], _ :: _, _, h => h.elim
  | _ :: _, [], _, h, _ => h.elim
  | _ :: _, _ :: _, [], _, h => h.elim

section
variable (P : Program)
/-- The kinds of the cells of a type that is flat, where '==' on it goes cell by cell. -/
def flatQ : Nat → TypeId → Option (List (Option IntKind))
  | 0, _ => none
  | f + 1, t =>
    match P.underlying t with
    | some .bool => some [none]
    | some (.int k) => some [some k]
    | some (.array n e) =>
      match flatQ f e with
      | some ks => if (P.info? e).map (·.size) = some ks.length then some (List.replicate n ks).flatten else none
      | none => none
    | some (.struct fs) =>
      match fs.toList.mapM (fun g => flatQ f g.type) with
      | some kss =>
        if (fs.toList.all fun g => g.name != "_") = true ∧ P.stoodInHeld t = false ∧ (fs.toList.map fun g => (P.info? g.type).map (·.size)) = kss.map (fun ks => some ks.length) ∧
          (fs.toList.map fun g => g.offset) = (List.range kss.length).map fun i => ((kss.take i).map List.length).sum
        then some kss.flatten else none
      | none => none
    | _ => none
/-- The value of some cells. -/
def mkV (t : TypeId) (cs : List Value) : Value :=
  match P.underlying t with
  | some (.struct _) => .agg cs.toArray
  | some (.array _ _) => .agg cs.toArray
  | _ => cs.headD (.int .i64 0)
end

section
variable {P : Program} (w : World)
theorem part_flat {f : Nat} {t : TypeId} {ks : List (Option IntKind)} (h : flatQ P f t = some ks) (hs : (P.info? t).map (·.size) = some ks.length) (cs : List Value) (off : Nat) (hl : off + ks.length ≤ cs.length) :
    (part t cs.toArray off).run P w = .ok (mkV P t ((cs.drop off).take ks.length)) w := by
  cases f with
  | zero => cases h
  | succ f =>
    obtain ⟨inf, hi, hsz⟩ : ∃ i, P.info? t = some i ∧ i.size = ks.length := by
      cases hq : P.info? t with
      | none => rw [hq] at hs; cases hs
      | some i => rw [hq] at hs; exact ⟨i, rfl, by simpa using hs⟩
    unfold flatQ at h
    split at h
    · rename_i hu
      injection h with h
      subst h
      have hlt : off < cs.length := by simp at hl; omega
      simp only [part, isAgg, Sem.run_bind, run_underlying hu, Result.andThen_ok, Sem.run_pure, Bool.false_eq_true, if_false, mkV, hu]
      rw [List.getElem?_toArray, List.getElem?_eq_getElem hlt, List.drop_eq_getElem_cons hlt]
      rfl
    · rename_i k hu
      injection h with h
      subst h
      have hlt : off < cs.length := by simp at hl; omega
      simp only [part, isAgg, Sem.run_bind, run_underlying hu, Result.andThen_ok, Sem.run_pure, Bool.false_eq_true, if_false, mkV, hu]
      rw [List.getElem?_toArray, List.getElem?_eq_getElem hlt, List.drop_eq_getElem_cons hlt]
      rfl
    · rename_i n e hu
      simp [part, isAgg, run_underlying hu, sizeOf, typeInfo, hi, hsz, mkV, hu]
    · rename_i fs hu
      simp [part, isAgg, run_underlying hu, sizeOf, typeInfo, hi, hsz, mkV, hu]
    · cases h

theorem kinds_seg : ∀ {kss : List (List (Option IntKind))} {cs : List Value} (i : Nat) {ks : List (Option IntKind)}, OfKinds kss.flatten cs → kss[i]? = some ks → OfKinds ks ((cs.drop ((kss.take i).map List.length).sum).take ks.length) ∧ ((kss.take i).map List.length).sum + ks.length ≤ cs.length
  | [], _, _, _, _, h => by simp at h
  | k :: kss, cs, 0, ks, h, hi => by
    simp only [List.getElem?_cons_zero, Option.some.injEq] at hi
    subst hi
    rw [List.flatten_cons] at h
    have := h.length
    rw [List.length_append] at this
    exact ⟨by simpa using h.split.1, by simp; omega⟩
  | k :: kss, cs, i + 1, ks, h, hi => by
    rw [List.flatten_cons] at h
    have hl := h.length
    rw [List.length_append] at hl
    obtain ⟨h1, h2⟩ := kinds_seg (kss := kss) i h.split.2 (by simpa using hi)
    rw [List.length_drop] at h2
    refine ⟨?_, ?_⟩
    · simp only [List.take_succ_cons, List.map_cons, List.sum_cons]
      rw [List.drop_drop] at h1
      exact h1
    · simp only [List.take_succ_cons, List.map_cons, List.sum_cons]
      omega

theorem all_chunks (c : Nat) : ∀ (n : Nat) (xs ys : List Value), xs.length = n * c → ys.length = n * c → (List.range n).all (fun i => cellsEq ((xs.drop (i * c)).take c) ((ys.drop (i * c)).take c)) = cellsEq xs ys
  | 0, xs, ys, hx, hy => by
    have h1 : xs = [] := List.eq_nil_of_length_eq_zero (by simpa using hx)
    have h2 : ys = [] := List.eq_nil_of_length_eq_zero (by simpa using hy)
    subst h1; subst h2; rfl
  | n + 1, xs, ys, hx, hy => by
    rw [Nat.succ_mul] at hx hy
    rw [List.range_succ_eq_map, List.all_cons, List.all_map]
    have := all_chunks c n (xs.drop c) (ys.drop c) (by rw [List.length_drop]; omega) (by rw [List.length_drop]; omega)
    rw [show ((fun i => cellsEq (List.take c (List.drop (i * c) xs)) (List.take c (List.drop (i * c) ys))) ∘ Nat.succ) = fun i => cellsEq (((xs.drop c).drop (i * c)).take c) (((ys.drop c).drop (i * c)).take c) from by
      funext i
      simp only [Function.comp, List.drop_drop, Nat.succ_mul, Nat.add_comm]]
    rw [this]
    conv => rhs; rw [← List.take_append_drop c xs, ← List.take_append_drop c ys]
    rw [cellsEq_append (by simp; omega)]
    simp

theorem eqFields_flat {f : Nat} (d : Nat) (hQ : ∀ (t : TypeId) (ks : List (Option IntKind)), flatQ P f t = some ks → ∀ xs ys : List Value, OfKinds ks xs → OfKinds ks ys → (Op.equalIn d t (mkV P t xs) (mkV P t ys)).run P w = .ok (cellsEq xs ys) w) :
    ∀ (fs : List Field) (kss : List (List (Option IntKind))) (o : Nat) (xs ys : List Value), fs.mapM (fun g => flatQ P f g.type) = some kss → (fs.all fun g => g.name != "_") = true →
      (fs.map fun g => (P.info? g.type).map (·.size)) = kss.map (fun ks => some ks.length) → (fs.map fun g => g.offset) = (List.range kss.length).map (fun i => o + ((kss.take i).map List.length).sum) →
      OfKinds kss.flatten (xs.drop o) → OfKinds kss.flatten (ys.drop o) → o ≤ xs.length → o ≤ ys.length → (Op.eqFields d xs.toArray ys.toArray fs).run P w = .ok (cellsEq (xs.drop o) (ys.drop o)) w
  | [], kss, o, xs, ys, hk, _, _, _, hx, hy, _, _ => by
    simp at hk
    subst hk
    have h1 : xs.drop o = [] := List.eq_nil_of_length_eq_zero (by simpa using hx.length)
    have h2 : ys.drop o = [] := List.eq_nil_of_length_eq_zero (by simpa using hy.length)
    rw [h1, h2]
    simp [Op.eqFields, cellsEq]
  | g :: fs, kss, o, xs, ys, hk, hn, hs, ho, hx, hy, hox, hoy => by
    rw [List.mapM_cons] at hk
    cases hg : flatQ P f g.type with
    | none => simp [hg] at hk
    | some ks =>
      cases hl : fs.mapM (fun g => flatQ P f g.type) with
      | none => simp [hg, hl] at hk
      | some kss' =>
        simp [hg, hl] at hk
        subst hk
        rw [List.map_cons, List.map_cons, List.cons.injEq] at hs
        have ho' := ho
        rw [List.map_cons, List.length_cons, List.range_succ_eq_map, List.map_cons, List.cons.injEq] at ho'
        obtain ⟨hoff, horest⟩ := ho'
        simp only [List.take_zero, List.map_nil, List.sum_nil, Nat.add_zero] at hoff
        rw [List.all_cons, Bool.and_eq_true] at hn
        have hnm : g.name ≠ "_" := by simpa using hn.1
        rw [List.flatten_cons] at hx hy
        have hxl := hx.length
        have hyl := hy.length
        rw [List.length_append, List.length_drop] at hxl hyl
        have hgx := part_flat w hg hs.1 xs g.offset (by rw [hoff]; omega)
        have hgy := part_flat w hg hs.1 ys g.offset (by rw [hoff]; omega)
        have h1 := hQ g.type ks hg _ _ hx.split.1 hy.split.1
        rw [← hoff] at h1
        have ih := eqFields_flat d hQ fs kss' (o + ks.length) xs ys hl hn.2 hs.2 (by
          rw [horest, List.map_map]
          apply List.map_congr_left
          intro i _
          simp [Function.comp, Nat.add_assoc]) (by have := hx.split.2; rwa [List.drop_drop] at this) (by have := hy.split.2; rwa [List.drop_drop] at this) (by omega) (by omega)
        have hsp : cellsEq (xs.drop o) (ys.drop o) = (cellsEq ((xs.drop o).take ks.length) ((ys.drop o).take ks.length) && cellsEq (xs.drop (o + ks.length)) (ys.drop (o + ks.length))) := by
          conv => lhs; rw [← List.take_append_drop ks.length (xs.drop o), ← List.take_append_drop ks.length (ys.drop o)]
          rw [cellsEq_append (by simp; omega), List.drop_drop, List.drop_drop]
        rw [hsp]
        simp only [Op.eqFields, hnm, ne_eq, not_false_eq_true, if_true, Sem.run_bind, hgx, hgy, Result.andThen_ok, h1]
        rw [hoff]
        cases hc : cellsEq ((xs.drop o).take ks.length) ((ys.drop o).take ks.length)
        · simp
        · simpa using ih

theorem eq_flat : ∀ (f : Nat) (t : TypeId) (ks : List (Option IntKind)), flatQ P f t = some ks → ∀ (d : Nat) (xs ys : List Value), OfKinds ks xs → OfKinds ks ys →
    (Op.equalIn (d + f) t (mkV P t xs) (mkV P t ys)).run P w = .ok (cellsEq xs ys) w
  | 0, _, _, h, _, _, _, _, _ => by cases h
  | f + 1, t, ks, h, d, xs, ys, hx, hy => by
    have h0 := h
    unfold flatQ at h
    split at h
    · rename_i hu
      injection h with h
      subst h
      match xs, ys, hx, hy with
      | [a], [b], ⟨⟨p, hp⟩, _⟩, ⟨⟨q, hq⟩, _⟩ =>
        subst hp; subst hq
        simp [mkV, hu, Op.equalIn, run_underlying hu, cellsEq, cellEq]
    · rename_i k hu
      injection h with h
      subst h
      match xs, ys, hx, hy with
      | [a], [b], ⟨⟨p, hp⟩, _⟩, ⟨⟨q, hq⟩, _⟩ =>
        subst hp; subst hq
        simp [mkV, hu, Op.equalIn, run_underlying hu, cellsEq, cellEq]
    · rename_i n e hu
      split at h
      · rename_i ks' hk
        split at h
        · rename_i hc
          injection h with h
          subst h
          obtain ⟨inf, hi, hsz⟩ : ∃ i, P.info? e = some i ∧ i.size = ks'.length := by
            cases hq : P.info? e with
            | none => rw [hq] at hc; cases hc
            | some i => rw [hq] at hc; exact ⟨i, rfl, by simpa using hc⟩
          have hxl := hx.length
          have hyl := hy.length
          simp at hxl hyl
          have seg : ∀ (zs : List Value), OfKinds (List.replicate n ks').flatten zs → ∀ i, i < n → OfKinds ks' ((zs.drop (i * ks'.length)).take ks'.length) ∧ i * ks'.length + ks'.length ≤ zs.length := by
            intro zs hz i hi
            have := kinds_seg (kss := List.replicate n ks') (cs := zs) i (ks := ks') hz (by simp [hi])
            rwa [show (((List.replicate n ks').take i).map List.length).sum = i * ks'.length by simp [List.take_replicate, Nat.min_eq_left (Nat.le_of_lt hi)]] at this
          rw [show mkV P t xs = .agg xs.toArray by simp [mkV, hu], show mkV P t ys = .agg ys.toArray by simp [mkV, hu]]
          rw [show d + (f + 1) = (d + f) + 1 by omega]
          rw [run_eq_array w (d + f) t e n ks'.length xs.toArray ys.toArray hu (by simp [sizeOf, typeInfo, hi, hsz]) (fun i => mkV P e ((xs.drop (i * ks'.length)).take ks'.length)) (fun i => mkV P e ((ys.drop (i * ks'.length)).take ks'.length)) (fun i => cellsEq ((xs.drop (i * ks'.length)).take ks'.length) ((ys.drop (i * ks'.length)).take ks'.length))
            (fun i hi => part_flat w hk hc xs _ (seg xs hx i hi).2) (fun i hi => part_flat w hk hc ys _ (seg ys hy i hi).2) (fun i hi => eq_flat f e ks' hk d _ _ (seg xs hx i hi).1 (seg ys hy i hi).1)]
          rw [all_chunks ks'.length n xs ys (by simpa using hxl) (by simpa using hyl)]
        · cases h
      · cases h
    · rename_i fs hu
      split at h
      · rename_i kss hk
        split at h
        · rename_i hc
          injection h with h
          subst h
          rw [show mkV P t xs = .agg xs.toArray by simp [mkV, hu], show mkV P t ys = .agg ys.toArray by simp [mkV, hu]]
          rw [show d + (f + 1) = (d + f) + 1 by omega]
          have hf : P.fieldsOf t = fs := by simp [Program.fieldsOf, hu]
          rw [run_equalIn_struct w (d + f) t _ _ (by rw [hf]; exact hu) hc.2.1, hf]
          have := eqFields_flat w (d + f) (fun t ks h xs ys hx hy => eq_flat f t ks h d xs ys hx hy) fs.toList kss 0 xs ys hk hc.1 hc.2.2.1 (by simpa using hc.2.2.2) (by simpa using hx) (by simpa using hy) (by omega) (by omega)
          simpa using this
        · cases h
      · cases h
    · cases h

/-- '==' on aggregates of flat cells, at the depth where the walk asks. -/
theorem eq_flat_agg (f : Nat) (t : TypeId) (ks : List (Option IntKind)) (h : flatQ P f t = some ks) (hf : f ≤ 10000) (ha : ∀ cs, mkV P t cs = .agg cs.toArray) (xs ys : List Value) (hx : OfKinds ks xs) (hy : OfKinds ks ys) :
    (Op.equalIn 10000 t (.agg xs.toArray) (.agg ys.toArray)).run P w = .ok (cellsEq xs ys) w := by
  have := eq_flat (P := P) w f t ks h (10000 - f) xs ys hx hy
  rw [ha, ha, show 10000 - f + f = 10000 by omega] at this
  exact this
end
end Go.Proofs.Ytpllcjggjjapoaa
