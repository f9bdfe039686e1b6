/-
  A region that draws its order: what each operation yields, as a predicate that the other operations keep.
-/
import Derived.Test.YtfigoeoimefngaaZa
namespace Go.Proofs.Ytfigoeoimefngaa.Prd
open Go.RowKit

/-- The frame: what each operation has put. -/
def frL : List (Option Tmp) → Nat → (Nat → Value) → Act → Act
  | [], _, _, a => a
  | d :: ds, k, u, a => frL ds (k + 1) u (a.put d (u k))
def dstL : List (Option Tmp) → Bool
  | [] => true
  | none :: ds => dstL ds
  | some d :: ds => ds.all (fun e => e != some d) && dstL ds
theorem put_swap {a : Act} {d e : Option Tmp} {v x : Value} (h : e ≠ d ∨ e = none) : (a.put e v).put d x = (a.put d x).put e v := by
  cases e with
  | none => rfl
  | some e =>
    cases d with
    | none => rfl
    | some d =>
      have hne : e ≠ d := by
        rintro rfl
        rcases h with h | h
        · exact h rfl
        · cases h
      simp only [Act.put, Act.mk.injEq, and_true]
      exact Array.setIfInBounds_comm _ _ hne
theorem put_same {a : Act} {d : Option Tmp} {v x : Value} : (a.put d v).put d x = a.put d x := by
  cases d with
  | none => rfl
  | some d => simp [Act.put]
theorem frL_put : ∀ (ds : List (Option Tmp)) (k : Nat) (u : Nat → Value) (a : Act) (d : Option Tmp) (x : Value), (∀ e ∈ ds, e ≠ d ∨ e = none) → (frL ds k u a).put d x = frL ds k u (a.put d x)
  | [], _, _, _, _, _, _ => rfl
  | e :: ds, k, u, a, d, x, h => by
    rw [frL, frL, frL_put ds _ _ _ _ _ (fun f hf => h f (by simp [hf])), put_swap (h e (by simp))]
theorem frL_cong : ∀ (ds : List (Option Tmp)) (k : Nat) (u u' : Nat → Value) (a : Act), (∀ j, k ≤ j → u j = u' j) → frL ds k u a = frL ds k u' a
  | [], _, _, _, _, _ => rfl
  | d :: ds, k, u, u', a, h => by
    rw [frL, frL, h k (Nat.le_refl _)]
    exact frL_cong ds _ _ _ _ (fun j hj => h j (by omega))
theorem frL_set : ∀ (ds : List (Option Tmp)) (k : Nat) (u : Nat → Value) (a : Act) (i : Nat) (d : Option Tmp) (x : Value), dstL ds = true → ds[i]? = some d → (frL ds k u a).put d x = frL ds k (updn u (k + i) x) a
  | [], _, _, _, _, _, _, _, h => by simp at h
  | e :: ds, k, u, a, 0, d, x, hd, h => by
    simp only [List.getElem?_cons_zero, Option.some.injEq] at h
    subst h
    simp only [frL, Nat.add_zero]
    rw [show updn u k x k = x by simp [updn]]
    rw [frL_cong ds (k + 1) (updn u k x) u _ (fun j hj => by simp only [updn]; rw [if_neg (by omega)])]
    cases e with
    | none => rfl
    | some e =>
      rw [dstL, Bool.and_eq_true, List.all_eq_true] at hd
      rw [frL_put ds _ _ _ _ _ (fun f hf => .inl (by have := hd.1 f hf; simpa using this)), put_same]
  | e :: ds, k, u, a, i + 1, d, x, hd, h => by
    rw [List.getElem?_cons_succ] at h
    have hd2 : dstL ds = true := by
      cases e with
      | none => exact hd
      | some e => rw [dstL, Bool.and_eq_true] at hd; exact hd.2
    rw [frL, frL, frL_set ds (k + 1) u _ i d x hd2 h, show updn u (k + (i + 1)) x k = u k by simp only [updn]; rw [if_neg (by omega)], show k + 1 + i = k + (i + 1) by omega]
def u0L (ds : List (Option Tmp)) (a : Act) (i : Nat) : Value := match ds[i]? with
  | some (some d) => a.tmps.getD d undef
  | _ => undef
theorem frL_start (a : Act) : ∀ (ds : List (Option Tmp)) (k : Nat) (u : Nat → Value), (∀ i, u (k + i) = u0L ds a i) → frL ds k u a = a
  | [], _, _, _ => rfl
  | d :: ds, k, u, h => by
    rw [frL]
    have h0 := h 0
    have e : a.put d (u k) = a := by
      cases d with
      | none => rfl
      | some d =>
        rw [Nat.add_zero] at h0
        rw [h0]
        simp only [Act.put, u0L, List.getElem?_cons_zero]
        by_cases hl : d < a.tmps.size
        · simp [Array.getD, hl, Array.setIfInBounds]
        · rw [Array.setIfInBounds_eq_of_size_le (Nat.le_of_not_lt hl)]
    rw [e]
    exact frL_start a ds (k + 1) u (fun i => by rw [show k + 1 + i = k + (i + 1) by omega, h (i + 1)]; rfl)

/-- Every edge points back. -/
def backL : Nat → List Oper → Bool
  | _, [] => true
  | i, o :: os => (o.after.all fun e => !Region.binds .any e || decide (e.on < i)) && backL (i + 1) os
theorem backL_at : ∀ (os : List Oper) (k : Nat), backL k os = true → ∀ i o, os[i]? = some o → ∀ e ∈ o.after, Region.binds .any e = true → e.on < k + i
  | [], _, _, _, _, h, _, _, _ => by simp at h
  | o :: os, k, hb, 0, o', h, e, he, hbe => by
    simp only [List.getElem?_cons_zero, Option.some.injEq] at h
    subst h
    rw [backL, Bool.and_eq_true, Array.all_eq_true_iff_forall_mem] at hb
    have := hb.1 e he
    simpa [hbe] using this
  | o :: os, k, hb, i + 1, o', h, e, he, hbe => by
    rw [List.getElem?_cons_succ] at h
    rw [backL, Bool.and_eq_true] at hb
    have := backL_at os (k + 1) hb.2 i o' h e he hbe
    omega
theorem ready_all {ops : Array Oper} {listed : Array Bool} (hb : backL 0 ops.toList = true) (hr : Region.ready .any ops listed = []) : ∀ i, i < ops.size → listed.getD i true = true := by
  intro i
  induction i using Nat.strongRecOn with
  | ind i ih =>
    intro hi
    cases h : listed.getD i true with
    | true => rfl
    | false =>
      have ho : ops[i]? = some ops[i] := Array.getElem?_eq_getElem hi
      have : i ∈ Region.ready .any ops listed := mem_ready.2 ⟨h, _, ho, fun e he hbe => by
        have h1 := backL_at ops.toList 0 hb i ops[i] (by rw [Array.getElem?_toList]; exact ho) e he hbe
        rw [Nat.zero_add] at h1
        have h2 := ih e.on h1 (by omega)
        by_cases hs : e.on < listed.size
        · simp [Array.getD, hs] at h2 ⊢
          exact h2
        · exfalso
          have hs2 : ¬ i < listed.size := by omega
          simp [Array.getD, hs2] at h⟩
      rw [hr] at this
      cases this
section
variable {P : Program} {ops : Array Oper} {Q : Exit → Act → World → Prop}
/-- Operation j does not hang on operation i. -/
def ndB (ops : Array Oper) (i j : Nat) : Bool := match ops[j]? with
  | some o => o.after.all fun e => !(Region.binds .any e && e.on == i)
  | none => true
theorem ndB_not {i j : Nat} (h : ndB ops i j = false) : ∃ o, ops[j]? = some o ∧ ∃ e ∈ o.after, Region.binds .any e = true ∧ e.on = i := by
  unfold ndB at h
  split at h
  · rename_i o ho
    rw [Array.all_eq_false] at h
    obtain ⟨q, hq, hb⟩ := h
    refine ⟨o, ho, o.after[q], Array.getElem_mem hq, ?_⟩
    simpa using hb
  · cases h
theorem ndB_of {i j : Nat} (h : ∀ o, ops[j]? = some o → ∀ e ∈ o.after, Region.binds .any e = true → e.on ≠ i) : ndB ops i j = true := by
  unfold ndB
  split
  · rename_i o ho
    rw [Array.all_eq_true_iff_forall_mem]
    intro e he
    have := h o ho e he
    cases hb : Region.binds .any e with
    | false => rfl
    | true => simpa using this hb
  · rfl
/-- What holds of what an operation hangs on, where it comes up: of those that nothing has used up. -/
def DepA (p : Nat → Value → World → Prop) (x : Nat → Option Nat) (i : Nat) (u : Nat → Value) (w : World) : List Edge → Prop
  | [] => True
  | e :: es => (Region.binds .any e = true → x e.on = none ∨ x e.on = some i → p e.on (u e.on) w) ∧ DepA p x i u w es
theorem depA_of {p : Nat → Value → World → Prop} {x : Nat → Option Nat} {i : Nat} {u : Nat → Value} {w : World} : ∀ (es : List Edge), (∀ e ∈ es, Region.binds .any e = true → x e.on = none ∨ x e.on = some i → p e.on (u e.on) w) → DepA p x i u w es
  | [], _ => trivial
  | e :: es, h => ⟨h e (by simp), depA_of es (fun f hf => h f (by simp [hf]))⟩
def StepA (P : Program) (ops : Array Oper) (Q : Exit → Act → World → Prop) (p : Nat → Value → World → Prop) (x : Nat → Option Nat) (G : World → Prop) (g0 : World → Prop) (x0 : Option Nat) (R : Nat → World → World → Prop) (z : Nat → Value) (fr : (Nat → Value) → Act) : Nat → List Oper → Prop
  | _, [] => True
  | i, o :: os => (∀ (u : Nat → Value) (w : World), G w → (x0 = none ∨ x0 = some i → g0 w) → (∀ j, ndB ops i j = false → u j = z j) → DepA p x i u w o.after.toList → ∀ K : Act → World → Prop, (∀ v w', R i w w' → p i v w' → K ((fr u).put o.dst v) w') →
      if Region.wanted o (yielded ops (fr u).tmps) = true then Oper.wp P o (fr u) w K Q else K ((fr u).put o.dst undef) w) ∧ StepA P ops Q p x G g0 x0 R z fr (i + 1) os
theorem stepA_at {p : Nat → Value → World → Prop} {x : Nat → Option Nat} {G g0 : World → Prop} {x0 : Option Nat} {R : Nat → World → World → Prop} {z : Nat → Value} {fr : (Nat → Value) → Act} : ∀ (os : List Oper) (k : Nat), StepA P ops Q p x G g0 x0 R z fr k os → ∀ i o, os[i]? = some o →
    ∀ (u : Nat → Value) (w : World), G w → (x0 = none ∨ x0 = some (k + i) → g0 w) → (∀ j, ndB ops (k + i) j = false → u j = z j) → DepA p x (k + i) u w o.after.toList → ∀ K : Act → World → Prop, (∀ v w', R (k + i) w w' → p (k + i) v w' → K ((fr u).put o.dst v) w') →
      if Region.wanted o (yielded ops (fr u).tmps) = true then Oper.wp P o (fr u) w K Q else K ((fr u).put o.dst undef) w
  | [], _, _, _, _, h => by simp at h
  | o :: os, k, hs, 0, o', h => by
    simp only [List.getElem?_cons_zero, Option.some.injEq] at h
    subst h
    exact hs.1
  | o :: os, k, hs, i + 1, o', h => by
    rw [List.getElem?_cons_succ] at h
    have := stepA_at os (k + 1) hs.2 i o' h
    rwa [show k + 1 + i = k + (i + 1) by omega] at this
def DoneA (p : Nat → Value → World → Prop) (x : Nat → Option Nat) (u : Nat → Value) (w : World) : Nat → Nat → Prop
  | _, 0 => True
  | i, n + 1 => (x i = none → p i (u i) w) ∧ DoneA p x u w (i + 1) n
theorem doneA_of {p : Nat → Value → World → Prop} {x : Nat → Option Nat} {u : Nat → Value} {w : World} : ∀ (n k : Nat), (∀ i, k ≤ i → i < k + n → x i = none → p i (u i) w) → DoneA p x u w k n
  | 0, _, _ => trivial
  | n + 1, k, h => ⟨h k (Nat.le_refl _) (by omega), doneA_of n (k + 1) (fun i h1 h2 => h i (by omega) (by omega))⟩
theorem wp_region_pred {id : Nat} {a : Act} {w : World} (hm : P.follows .mixedOrders = true) (hb : backL 0 ops.toList = true) (hd : dstL (ops.toList.map (·.dst)) = true)
    (fr : (Nat → Value) → Act) (hfr : ∀ u, frL (ops.toList.map (·.dst)) 0 u a = fr u)
    (p : Nat → Value → World → Prop) (x : Nat → Option Nat) (G : World → Prop) (g0 : World → Prop) (x0 : Option Nat) (R : Nat → World → World → Prop)
    (hG : G w.drew) (h0g : g0 w.drew) (hgR : ∀ i w w', x0 ≠ some i → R i w w' → g0 w → g0 w') (hGR : ∀ i w w', R i w w' → G w → G w') (hpR : ∀ i j v w w', i ≠ j → x j ≠ some i → ndB ops i j = true → R i w w' → p j v w → p j v w')
    (hs : StepA P ops Q p x G g0 x0 R (u0L (ops.toList.map (·.dst)) a) fr 0 ops.toList)
    (hdone : ∀ u w', G w' → DoneA p x u w' 0 ops.size → Q .normal (fr u) w') : (Code.region id ops true).wp P Q a w := by
  refine wp_region_inv hm (fun listed a' W => ∃ u, a' = fr u ∧ G W ∧ ((∀ j, x0 = some j → listed.getD j false = false) → g0 W) ∧ listed.size = ops.size ∧ (∀ j o, ops[j]? = some o → listed.getD j false = true → ∀ e ∈ o.after, Region.binds .any e = true → listed.getD e.on false = true) ∧ (∀ j, listed.getD j false = false → u j = u0L (ops.toList.map (·.dst)) a j) ∧ ∀ i, listed.getD i false = true → (∀ j, x i = some j → listed.getD j false = false) → p i (u i) W) ?start ?step ?done
  case start =>
    refine ⟨u0L (ops.toList.map (·.dst)) a, ?_, hG, fun _ => h0g, by simp, fun j o _ h => ?_, fun _ _ => rfl, fun i h => ?_⟩
    · rw [← hfr, frL_start a _ 0 _ (fun i => by rw [Nat.zero_add])]
    · exfalso
      simp [Array.getD] at h
    · exfalso
      simp [Array.getD] at h
  case step =>
    rintro listed a' W i o ⟨u, rfl, hg, hg0, hsz, hdl, hun, hp⟩ ho h0 hdep K hK
    have hi : i < ops.size := (Array.getElem?_eq_some_iff.1 ho).1
    have h00 : listed.getD i false = false := by
      simp [Array.getD, hsz, hi] at h0 ⊢
      exact h0
    have hput : ∀ v, (fr u).put o.dst v = fr (updn u i v) := fun v => by
      rw [← hfr, ← hfr, frL_set _ 0 u a i o.dst v hd (by rw [List.getElem?_map, Array.getElem?_toList, ho]; rfl), Nat.zero_add]
    have hst := stepA_at (P := P) (ops := ops) (Q := Q) ops.toList 0 hs i o (by rw [Array.getElem?_toList]; exact ho) u W hg
      (by
        rw [Nat.zero_add]
        intro hx
        refine hg0 (fun j hj => ?_)
        rcases hx with hx | hx
        · rw [hx] at hj; cases hj
        · rw [hx] at hj
          injection hj with hj
          subst hj
          exact h00)
      (fun j hj => by
        rw [Nat.zero_add] at hj
        obtain ⟨o2, ho2, e, he, hbe, hei⟩ := ndB_not hj
        refine hun j ?_
        cases hl : listed.getD j false with
        | false => rfl
        | true =>
          have := hdl j o2 ho2 hl e he hbe
          rw [hei, h00] at this
          cases this)
      (by
        rw [Nat.zero_add]
        refine depA_of _ (fun e he hbe hx => hp e.on (hdep e (Array.mem_toList_iff.1 he) hbe) (fun j hj => ?_))
        rcases hx with hx | hx
        · rw [hx] at hj; cases hj
        · rw [hx] at hj
          injection hj with hj
          subst hj
          exact h00) K
    rw [Nat.zero_add] at hst
    refine hst (fun v w' hr hv => ?_)
    rw [hput v]
    have hset : ∀ k, (listed.setIfInBounds i true).getD k false = if k = i then true else listed.getD k false := fun k => by
      by_cases hk : k = i
      · subst hk
        simp [Array.getD, hsz, hi]
      · rw [if_neg hk]
        by_cases hl : k < listed.size
        · simp [Array.getD, hl, Ne.symm hk]
        · simp [Array.getD, hl]
    refine hK _ _ ⟨updn u i v, rfl, hGR i W w' hr hg, fun hx => hgR i W w' (fun e => ?_) hr (hg0 fun j hj => ?_), by simpa using hsz, fun j o2 ho2 hj e he hbe => ?_, fun j hj => ?_, fun j hj hx => ?_⟩
    · have := hx i e
      rw [hset, if_pos rfl] at this
      cases this
    · have := hx j hj
      rw [hset] at this
      split at this
      · cases this
      · exact this
    · rw [hset] at hj ⊢
      by_cases hji : j = i
      · subst hji
        rw [ho] at ho2
        injection ho2 with ho2
        subst ho2
        rw [hdep e he hbe, ite_self]
      · rw [if_neg hji] at hj
        rw [hdl j o2 ho2 hj e he hbe, ite_self]
    · rw [hset] at hj
      by_cases hji : j = i
      · rw [if_pos hji] at hj; cases hj
      · rw [if_neg hji] at hj
        simp only [updn, if_neg hji]
        exact hun j hj
    · by_cases hji : j = i
      · subst hji
        simp only [updn, if_pos]
        exact hv
      · simp only [updn, if_neg hji]
        rw [hset, if_neg hji] at hj
        refine hpR i j _ W w' (Ne.symm hji) (fun e => ?_) (ndB_of fun o2 ho2 e he hbe hei => ?_) hr (hp j hj (fun k hk => ?_))
        · have := hx i e
          rw [hset, if_pos rfl] at this
          cases this
        · have := hdl j o2 ho2 hj e he hbe
          rw [hei, h00] at this
          cases this
        · have := hx k hk
          rw [hset] at this
          split at this
          · cases this
          · exact this
  case done =>
    rintro listed a' W ⟨u, rfl, hg, _, hsz, _, _, hp⟩ hr
    have hall := ready_all hb hr
    refine hdone u W hg (doneA_of _ _ (fun i _ hi hx => hp i ?_ (fun j hj => by rw [hx] at hj; cases hj)))
    have h1 := hall i (by omega)
    have hl : i < listed.size := by omega
    simp [Array.getD, hl] at h1 ⊢
    exact h1
/-- Most operations yield a known value; some few are told by a predicate of their own. -/
def pv (vals : Array Value) (sp : List (Nat × (Value → World → Prop))) (j : Nat) (v : Value) (w : World) : Prop := match sp.lookup j with
  | some s => s v w
  | none => v = vals.getD j undef
def SpecM (ops : Array Oper) (x : Nat → Option Nat) (R : Nat → World → World → Prop) : List (Nat × (Value → World → Prop)) → Prop
  | [] => True
  | (j, s) :: l => (∀ i v w w', i ≠ j → x j ≠ some i → ndB ops i j = true → R i w w' → s v w → s v w') ∧ SpecM ops x R l
theorem pv_keep {vals : Array Value} {x : Nat → Option Nat} {R : Nat → World → World → Prop} : ∀ (sp : List (Nat × (Value → World → Prop))), SpecM ops x R sp → ∀ i j v w w', i ≠ j → x j ≠ some i → ndB ops i j = true → R i w w' → pv vals sp j v w → pv vals sp j v w'
  | [], _, _, _, _, _, _, _, _, _, _, hp => hp
  | (j0, s) :: l, hm, i, j, v, w, w', h1, h2, h3, h4, hp => by
    unfold pv at hp ⊢
    rw [List.lookup_cons] at hp ⊢
    by_cases hj : j = j0
    · subst hj
      simp only [beq_self_eq_true] at hp ⊢
      exact hm.1 i v w w' h1 h2 h3 h4 hp
    · rw [show (j == j0) = false by simpa using hj] at hp ⊢
      exact pv_keep l hm.2 i j v w w' h1 h2 h3 h4 hp
end
end Go.Proofs.Ytfigoeoimefngaa.Prd
