/-
  A region that draws its order, by predicates, where one operation's value (an address that it makes) is named by the others' predicates.
-/
import Derived.Test.YtfigoeoimefngaaPr
namespace Go.Proofs.Ytfigoeoimefngaa.Prg
open Go.RowKit Prd
section
variable {P : Program} {ops : Array Oper} {Q : Exit → Act → World → Prop}
/-- What holds of what an operation hangs on, where it comes up: of those that nothing has used up. -/
def DepA (p : Value → Nat → Value → World → Prop) (gi : Nat) (x : Nat → Option Nat) (i : Nat) (u : Nat → Value) (w : World) : List Edge → Prop
  | [] => True
  | e :: es => (Region.binds .any e = true → x e.on = none ∨ x e.on = some i → p (u gi) e.on (u e.on) w) ∧ DepA p gi x i u w es
theorem depA_of {p : Value → Nat → Value → World → Prop} {gi : Nat} {x : Nat → Option Nat} {i : Nat} {u : Nat → Value} {w : World} : ∀ (es : List Edge), (∀ e ∈ es, Region.binds .any e = true → x e.on = none ∨ x e.on = some i → p (u gi) e.on (u e.on) w) → DepA p gi x i u w es
  | [], _ => trivial
  | e :: es, h => ⟨h e (by simp), depA_of es (fun f hf => h f (by simp [hf]))⟩
def StepA (P : Program) (ops : Array Oper) (Q : Exit → Act → World → Prop) (p : Value → Nat → Value → World → Prop) (gi : Nat) (x : Nat → Option Nat) (G : World → Prop) (g0 : World → Prop) (x0 : Option Nat) (R : Nat → World → World → Prop) (z : Nat → Value) (fr : (Nat → Value) → Act) : Nat → List Oper → Prop
  | _, [] => True
  | i, o :: os => (∀ (u : Nat → Value) (w : World), G w → (x0 = none ∨ x0 = some i → g0 w) → (∀ j, Prd.ndB ops i j = false → u j = z j) → DepA p gi x i u w o.after.toList → ∀ K : Act → World → Prop, (∀ v w', R i w w' → p (if i = gi then v else u gi) i v w' → K ((fr u).put o.dst v) w') →
      if Region.wanted o (yielded ops (fr u).tmps) = true then Oper.wp P o (fr u) w K Q else K ((fr u).put o.dst undef) w) ∧ StepA P ops Q p gi x G g0 x0 R z fr (i + 1) os
theorem stepA_at {p : Value → Nat → Value → World → Prop} {gi : Nat} {x : Nat → Option Nat} {G g0 : World → Prop} {x0 : Option Nat} {R : Nat → World → World → Prop} {z : Nat → Value} {fr : (Nat → Value) → Act} : ∀ (os : List Oper) (k : Nat), StepA P ops Q p gi x G g0 x0 R z fr k os → ∀ i o, os[i]? = some o →
    ∀ (u : Nat → Value) (w : World), G w → (x0 = none ∨ x0 = some (k + i) → g0 w) → (∀ j, Prd.ndB ops (k + i) j = false → u j = z j) → DepA p gi x (k + i) u w o.after.toList → ∀ K : Act → World → Prop, (∀ v w', R (k + i) w w' → p (if k + i = gi then v else u gi) (k + i) v w' → K ((fr u).put o.dst v) w') →
      if Region.wanted o (yielded ops (fr u).tmps) = true then Oper.wp P o (fr u) w K Q else K ((fr u).put o.dst undef) w
  | [], _, _, _, _, h => by simp at h
  | o :: os, k, hs, 0, o', h => by
    simp only [List.getElem?_cons_zero, Option.some.injEq] at h
    subst h
    exact hs.1
  | o :: os, k, hs, i + 1, o', h => by
    rw [List.getElem?_cons_succ] at h
    have := stepA_at os (k + 1) hs.2 i o' h
    rwa [show k + 1 + i = k + (i + 1) by omega] at this
def DoneA (p : Value → Nat → Value → World → Prop) (gi : Nat) (x : Nat → Option Nat) (u : Nat → Value) (w : World) : Nat → Nat → Prop
  | _, 0 => True
  | i, n + 1 => (x i = none → p (u gi) i (u i) w) ∧ DoneA p gi x u w (i + 1) n
theorem doneA_of {p : Value → Nat → Value → World → Prop} {gi : Nat} {x : Nat → Option Nat} {u : Nat → Value} {w : World} : ∀ (n k : Nat), (∀ i, k ≤ i → i < k + n → x i = none → p (u gi) i (u i) w) → DoneA p gi x u w k n
  | 0, _, _ => trivial
  | n + 1, k, h => ⟨h k (Nat.le_refl _) (by omega), doneA_of n (k + 1) (fun i h1 h2 => h i (by omega) (by omega))⟩
theorem wp_region_pred {id : Nat} {a : Act} {w : World} (hm : P.follows .mixedOrders = true) (hb : Prd.backL 0 ops.toList = true) (hd : Prd.dstL (ops.toList.map (·.dst)) = true)
    (fr : (Nat → Value) → Act) (hfr : ∀ u, Prd.frL (ops.toList.map (·.dst)) 0 u a = fr u)
    (p : Value → Nat → Value → World → Prop) (gi : Nat) (x : Nat → Option Nat) (G : World → Prop) (g0 : World → Prop) (x0 : Option Nat) (R : Nat → World → World → Prop)
    (hG : G w.drew) (h0g : g0 w.drew) (hgR : ∀ i w w', x0 ≠ some i → R i w w' → g0 w → g0 w') (hGR : ∀ i w w', R i w w' → G w → G w') (hpR : ∀ c i j v w w', i ≠ j → x j ≠ some i → Prd.ndB ops i j = true → R i w w' → p c j v w → p c j v w') (hgh : ∀ c c' j v w, j ≠ gi → Prd.ndB ops gi j = true → p c j v w → p c' j v w)
    (hs : StepA P ops Q p gi x G g0 x0 R (Prd.u0L (ops.toList.map (·.dst)) a) fr 0 ops.toList)
    (hdone : ∀ u w', G w' → DoneA p gi x u w' 0 ops.size → Q .normal (fr u) w') : (Code.region id ops true).wp P Q a w := by
  refine wp_region_inv hm (fun listed a' W => ∃ u, a' = fr u ∧ G W ∧ ((∀ j, x0 = some j → listed.getD j false = false) → g0 W) ∧ listed.size = ops.size ∧ (∀ j o, ops[j]? = some o → listed.getD j false = true → ∀ e ∈ o.after, Region.binds .any e = true → listed.getD e.on false = true) ∧ (∀ j, listed.getD j false = false → u j = Prd.u0L (ops.toList.map (·.dst)) a j) ∧ ∀ i, listed.getD i false = true → (∀ j, x i = some j → listed.getD j false = false) → p (u gi) i (u i) W) ?start ?step ?done
  case start =>
    refine ⟨Prd.u0L (ops.toList.map (·.dst)) a, ?_, hG, fun _ => h0g, by simp, fun j o _ h => ?_, fun _ _ => rfl, fun i h => ?_⟩
    · rw [← hfr, Prd.frL_start a _ 0 _ (fun i => by rw [Nat.zero_add])]
    · exfalso
      simp [Array.getD] at h
    · exfalso
      simp [Array.getD] at h
  case step =>
    rintro listed a' W i o ⟨u, rfl, hg, hg0, hsz, hdl, hun, hp⟩ ho h0 hdep K hK
    have hi : i < ops.size := (Array.getElem?_eq_some_iff.1 ho).1
    have h00 : listed.getD i false = false := by
      simp [Array.getD, hsz, hi] at h0 ⊢
      exact h0
    have hput : ∀ v, (fr u).put o.dst v = fr (updn u i v) := fun v => by
      rw [← hfr, ← hfr, Prd.frL_set _ 0 u a i o.dst v hd (by rw [List.getElem?_map, Array.getElem?_toList, ho]; rfl), Nat.zero_add]
    have hst := stepA_at (P := P) (ops := ops) (Q := Q) ops.toList 0 hs i o (by rw [Array.getElem?_toList]; exact ho) u W hg
      (by
        rw [Nat.zero_add]
        intro hx
        refine hg0 (fun j hj => ?_)
        rcases hx with hx | hx
        · rw [hx] at hj; cases hj
        · rw [hx] at hj
          injection hj with hj
          subst hj
          exact h00)
      (fun j hj => by
        rw [Nat.zero_add] at hj
        obtain ⟨o2, ho2, e, he, hbe, hei⟩ := Prd.ndB_not hj
        refine hun j ?_
        cases hl : listed.getD j false with
        | false => rfl
        | true =>
          have := hdl j o2 ho2 hl e he hbe
          rw [hei, h00] at this
          cases this)
      (by
        rw [Nat.zero_add]
        refine depA_of _ (fun e he hbe hx => hp e.on (hdep e (Array.mem_toList_iff.1 he) hbe) (fun j hj => ?_))
        rcases hx with hx | hx
        · rw [hx] at hj; cases hj
        · rw [hx] at hj
          injection hj with hj
          subst hj
          exact h00) K
    rw [Nat.zero_add] at hst
    refine hst (fun v w' hr hv => ?_)
    rw [hput v]
    have hset : ∀ k, (listed.setIfInBounds i true).getD k false = if k = i then true else listed.getD k false := fun k => by
      by_cases hk : k = i
      · subst hk
        simp [Array.getD, hsz, hi]
      · rw [if_neg hk]
        by_cases hl : k < listed.size
        · simp [Array.getD, hl, Ne.symm hk]
        · simp [Array.getD, hl]
    refine hK _ _ ⟨updn u i v, rfl, hGR i W w' hr hg, fun hx => hgR i W w' (fun e => ?_) hr (hg0 fun j hj => ?_), by simpa using hsz, fun j o2 ho2 hj e he hbe => ?_, fun j hj => ?_, fun j hj hx => ?_⟩
    · have := hx i e
      rw [hset, if_pos rfl] at this
      cases this
    · have := hx j hj
      rw [hset] at this
      split at this
      · cases this
      · exact this
    · rw [hset] at hj ⊢
      by_cases hji : j = i
      · subst hji
        rw [ho] at ho2
        injection ho2 with ho2
        subst ho2
        rw [hdep e he hbe, ite_self]
      · rw [if_neg hji] at hj
        rw [hdl j o2 ho2 hj e he hbe, ite_self]
    · rw [hset] at hj
      by_cases hji : j = i
      · rw [if_pos hji] at hj; cases hj
      · rw [if_neg hji] at hj
        simp only [updn, if_neg hji]
        exact hun j hj
    · have hug : updn u i v gi = if i = gi then v else u gi := by
        unfold updn
        by_cases hig : i = gi
        · rw [if_pos hig, if_pos hig.symm]
        · rw [if_neg hig, if_neg (fun e => hig e.symm)]
      by_cases hji : j = i
      · subst hji
        rw [hug]
        simp only [updn, if_pos]
        exact hv
      · rw [hug]
        simp only [updn, if_neg hji]
        rw [hset, if_neg hji] at hj
        have hnd : Prd.ndB ops i j = true := Prd.ndB_of fun o2 ho2 e he hbe hei => by
          have := hdl j o2 ho2 hj e he hbe
          rw [hei, h00] at this
          cases this
        have hkeep : p (u gi) j (u j) w' → p (if i = gi then v else u gi) j (u j) w' := fun hq => by
          by_cases hig : i = gi
          · rw [if_pos hig]
            exact hgh _ _ j _ _ (fun e => hji (e.trans hig.symm)) (by rw [← hig]; exact hnd) hq
          · rw [if_neg hig]; exact hq
        refine hkeep ?_
        refine hpR _ i j _ W w' (Ne.symm hji) (fun e => ?_) (Prd.ndB_of fun o2 ho2 e he hbe hei => ?_) hr (hp j hj (fun k hk => ?_))
        · have := hx i e
          rw [hset, if_pos rfl] at this
          cases this
        · have := hdl j o2 ho2 hj e he hbe
          rw [hei, h00] at this
          cases this
        · have := hx k hk
          rw [hset] at this
          split at this
          · cases this
          · exact this
  case done =>
    rintro listed a' W ⟨u, rfl, hg, _, hsz, _, _, hp⟩ hr
    have hall := Prd.ready_all hb hr
    refine hdone u W hg (doneA_of _ _ (fun i _ hi hx => hp i ?_ (fun j hj => by rw [hx] at hj; cases hj)))
    have h1 := hall i (by omega)
    have hl : i < listed.size := by omega
    simp [Array.getD, hl] at h1 ⊢
    exact h1
end
/-- Most operations yield a known value; some few are told by a predicate of their own. -/
def pv (vals : Array Value) (sp : List (Nat × (Value → Value → World → Prop))) (c : Value) (j : Nat) (v : Value) (w : World) : Prop := match sp.lookup j with
  | some s => s c v w
  | none => v = vals.getD j undef
theorem pv_of {vals : Array Value} {sp : List (Nat × (Value → Value → World → Prop))} {c : Value} {j : Nat} {v : Value} {w : World} (h : sp.lookup j = none) (hv : v = vals.getD j undef) : pv vals sp c j v w := by unfold pv; rw [h]; exact hv
theorem pv_at {vals : Array Value} {sp : List (Nat × (Value → Value → World → Prop))} {c : Value} {j : Nat} {v : Value} {w : World} (hp : pv vals sp c j v w) (h : sp.lookup j = none) : v = vals.getD j undef := by unfold pv at hp; rw [h] at hp; exact hp
theorem pv_sp {vals : Array Value} {sp : List (Nat × (Value → Value → World → Prop))} {c : Value} {j : Nat} {v : Value} {w : World} {s : Value → Value → World → Prop} (h : sp.lookup j = some s) (hs : s c v w) : pv vals sp c j v w := by unfold pv; rw [h]; exact hs
theorem pv_in {vals : Array Value} {sp : List (Nat × (Value → Value → World → Prop))} {c : Value} {j : Nat} {v : Value} {w : World} {s : Value → Value → World → Prop} (hp : pv vals sp c j v w) (h : sp.lookup j = some s) : s c v w := by unfold pv at hp; rw [h] at hp; exact hp
def SpecM (ops : Array Oper) (gi : Nat) (x : Nat → Option Nat) (R : Nat → World → World → Prop) : List (Nat × (Value → Value → World → Prop)) → Prop
  | [] => True
  | (j, s) :: l => ((∀ c i v w w', i ≠ j → x j ≠ some i → Prd.ndB ops i j = true → R i w w' → s c v w → s c v w') ∧ (∀ c c' v w, j ≠ gi → Prd.ndB ops gi j = true → s c v w → s c' v w)) ∧ SpecM ops gi x R l
theorem pv_keep {ops : Array Oper} {gi : Nat} {vals : Array Value} {x : Nat → Option Nat} {R : Nat → World → World → Prop} : ∀ (sp : List (Nat × (Value → Value → World → Prop))), SpecM ops gi x R sp → ∀ c i j v w w', i ≠ j → x j ≠ some i → Prd.ndB ops i j = true → R i w w' → pv vals sp c j v w → pv vals sp c j v w'
  | [], _, _, _, _, _, _, _, _, _, _, _, hp => hp
  | (j0, s) :: l, hm, c, i, j, v, w, w', h1, h2, h3, h4, hp => by
    unfold pv at hp ⊢
    rw [List.lookup_cons] at hp ⊢
    by_cases hj : j = j0
    · subst hj
      simp only [beq_self_eq_true] at hp ⊢
      exact hm.1.1 c i v w w' h1 h2 h3 h4 hp
    · rw [show (j == j0) = false by simpa using hj] at hp ⊢
      exact pv_keep l hm.2 c i j v w w' h1 h2 h3 h4 hp
theorem pv_gh {ops : Array Oper} {gi : Nat} {vals : Array Value} {x : Nat → Option Nat} {R : Nat → World → World → Prop} : ∀ (sp : List (Nat × (Value → Value → World → Prop))), SpecM ops gi x R sp → ∀ c c' j v w, j ≠ gi → Prd.ndB ops gi j = true → pv vals sp c j v w → pv vals sp c' j v w
  | [], _, _, _, _, _, _, _, _, hp => hp
  | (j0, s) :: l, hm, c, c', j, v, w, h1, h2, hp => by
    unfold pv at hp ⊢
    rw [List.lookup_cons] at hp ⊢
    by_cases hj : j = j0
    · subst hj
      simp only [beq_self_eq_true] at hp ⊢
      exact hm.1.2 c c' v w h1 h2 hp
    · rw [show (j == j0) = false by simpa using hj] at hp ⊢
      exact pv_gh l hm.2 c c' j v w h1 h2 hp
end Go.Proofs.Ytfigoeoimefngaa.Prg
