/-
  What a history told of each name: the state, as a function of the steps so far; the map that holds it.
-/
import Derived.Test.YtcailhkaeledbaaOrB
namespace Go.Proofs.Ytcailhkaeledbaa
open Go.RowKit Go.Maps

def tkA (n : Nm) : Nat → List Sn → Tk → Tk
  | _, [], t => t
  | i, x :: l, t => tkA n (i + 1) l (if x.n = n then nxt i x t else t)
def tk (l : List Sn) (n : Nm) : Tk := tkA n 0 l Tk.zero
theorem tkA_snoc (n : Nm) (x : Sn) : ∀ (l : List Sn) (i : Nat) (t : Tk), tkA n i (l ++ [x]) t = if x.n = n then nxt ((i + l.length : Nat) : Int) x (tkA n i l t) else tkA n i l t
  | [], i, t => by simp [tkA]
  | y :: l, i, t => by
    rw [List.cons_append, tkA, tkA_snoc n x l, tkA, List.length_cons, show i + 1 + l.length = i + (l.length + 1) by omega]
theorem tk_snoc (l : List Sn) (x : Sn) (n : Nm) : tk (l ++ [x]) n = if x.n = n then nxt (l.length : Int) x (tk l n) else tk l n := by
  unfold tk
  rw [tkA_snoc, Nat.zero_add]
def stA (n : Nm) : Nat → List Sn → List (Int × Nat)
  | _, [] => []
  | i, x :: l => (if x.n = n ∧ rwB x = true then [(x.b, i)] else []) ++ stA n (i + 1) l
/-- The reads and writes of a name: block, place. -/
def st (l : List Sn) (n : Nm) : List (Int × Nat) := stA n 0 l
theorem stA_snoc (n : Nm) (x : Sn) : ∀ (l : List Sn) (i : Nat), stA n i (l ++ [x]) = stA n i l ++ if x.n = n ∧ rwB x = true then [(x.b, i + l.length)] else []
  | [], i => by simp [stA]
  | y :: l, i => by
    rw [List.cons_append, stA, stA_snoc n x l, stA, List.length_cons, show i + 1 + l.length = i + (l.length + 1) by omega, List.append_assoc]
theorem st_snoc (l : List Sn) (x : Sn) (n : Nm) : st (l ++ [x]) n = st l n ++ if x.n = n ∧ rwB x = true then [(x.b, l.length)] else [] := by
  unfold st
  rw [stA_snoc, Nat.zero_add]
theorem stA_len (n : Nm) : ∀ (l : List Sn) (i : Nat), (stA n i l).length ≤ l.length
  | [], _ => Nat.le_refl _
  | x :: l, i => by
    rw [stA, List.length_append, List.length_cons]
    have := stA_len n l (i + 1)
    split <;> simp <;> omega
theorem st_len (l : List Sn) (n : Nm) : (st l n).length ≤ l.length := stA_len n l 0
def stc (p : List (Int × Nat)) : List Value := p.map fun q => cx q.1 (q.2 : Int)
theorem stc_len (p : List (Int × Nat)) : (stc p).length = p.length := by simp [stc]
theorem tkA_none (n : Nm) : ∀ (l : List Sn) (i : Nat) (t : Tk), n ∉ l.map Sn.n → tkA n i l t = t
  | [], _, _, _ => rfl
  | x :: l, i, t, h => by
    simp only [List.map_cons, List.mem_cons, not_or] at h
    rw [tkA, if_neg (Ne.symm h.1), tkA_none n l _ _ h.2]
theorem tk_none {l : List Sn} {n : Nm} (h : n ∉ l.map Sn.n) : tk l n = Tk.zero := tkA_none n l 0 _ h
theorem stA_none (n : Nm) : ∀ (l : List Sn) (i : Nat), n ∉ l.map Sn.n → stA n i l = []
  | [], _, _ => rfl
  | x :: l, i, h => by
    simp only [List.map_cons, List.mem_cons, not_or] at h
    rw [stA, if_neg (fun e => h.1 e.1.symm), stA_none n l _ h.2]
    rfl
/-- Step i may stand there. -/
def okAt (l : List Sn) (i : Nat) : Bool :=
  match l[i]? with
  | none => true
  | some x => namedB x.n && okS x (tk (l.take i) x.n)
def mayB (l : List Sn) : Bool := (List.range l.length).all (okAt l)

/-- A map of names: those of N, each with f's value. -/
def fT (N : List Nm) (f : Nm → Value) : Lit → Option Value := fun kl => (N.find? fun n => kl.sameKey n.lit).map f
theorem fT_at {N : List Nm} (hN : ∀ n ∈ N, n.ok) (f : Nm → Value) {n : Nm} (hn : n.ok) : fT N f n.lit = if n ∈ N then some (f n) else none := by
  induction N with
  | nil => rfl
  | cons y N ih =>
    unfold fT
    rw [List.find?_cons]
    by_cases h : y = n
    · subst h
      rw [lit_same hn]
      simp
    · rw [lit_other hn (hN y (by simp)) (Ne.symm h)]
      have := ih (fun z hz => hN z (by simp [hz]))
      unfold fT at this
      simp only [this, List.mem_cons, Ne.symm h, false_or]
theorem fT_upd {N : List Nm} (f : Nm → Value) {n : Nm} (v : Value) (f' : Nm → Value) (h1 : f' n = v) (h2 : ∀ y, y ≠ n → f' y = f y) : upd (fT N f) n.lit v = fT (n :: N) f' := by
  funext kl
  unfold upd fT
  rw [List.find?_cons]
  by_cases h : kl.sameKey n.lit = true
  · rw [if_pos h, h]; simp [h1]
  · rw [if_neg h]
    simp only [Bool.not_eq_true] at h
    rw [h]
    cases hf : N.find? fun n => kl.sameKey n.lit with
    | none => rfl
    | some y =>
      have hy := List.find?_some hf
      have hne : y ≠ n := fun e => by subst e; rw [h] at hy; cases hy
      simp [h2 y hne]
theorem fT_mem {N : List Nm} {f : Nm → Value} (kl : Lit) (h : (fT N f kl).isSome = true) : kl ∈ N.map Nm.lit := by
  unfold fT at h
  rw [Option.isSome_map] at h
  obtain ⟨p, hp⟩ := Option.isSome_iff_exists.1 h
  have hs := List.find?_some hp
  exact List.mem_map.2 ⟨p, List.mem_of_find?_eq_some hp, (WideAt.sameKey_eq hs).symm⟩

/-- The map of what a history told. -/
structure Tr (w : World) (B m : Nat) (l : List Sn) (V : Nm → Value) : Prop where
  map : Mp Try.prog 31 w m (fT (l.map Sn.n).reverse fun n => .agg ((tk l n).cs (V n)))
  ok : ∀ x ∈ l, x.n.ok
  row : ∀ n, w.ownsRow B 55 1 (V n) (st l n).length (stc (st l n))
  nil : ∀ n, n ∉ l.map Sn.n → V n = .slice none 0 0
  apart : ∀ n n' b, n ≠ n' → (V n).ownBlock = some b → (V n').ownBlock ≠ some b
section
variable {w w' : World} {B m : Nat} {l : List Sn} {V : Nm → Value}
theorem Tr.grows (h : Tr w B m l V) (hg : Grows w w') : Tr w' B m l V := ⟨h.map.grows hg, h.ok, fun n => own_grows (h.row n) hg, h.nil, h.apart⟩
/-- The map's block and the rows lie as they lay. -/
theorem Tr.same (h : Tr w B m l V) (hm : w'.heap[m]? = w.heap[m]?) (hr : ∀ n b, (V n).ownBlock = some b → w'.heap[b]? = w.heap[b]?) : Tr w' B m l V :=
  ⟨h.map.same hm, h.ok, fun n => own_keep (h.row n) (hr n), h.nil, h.apart⟩
theorem Tr.names (h : Tr w B m l V) : ∀ n ∈ (l.map Sn.n).reverse, n.ok := fun n hn => by
  obtain ⟨x, hx, rfl⟩ := List.mem_map.1 (List.mem_reverse.1 hn)
  exact h.ok x hx
theorem zeroTrack (W : World) : (zeroValue 54).run Try.prog W = .ok (.agg (Tk.zero.cs (.slice none 0 0))) W := by kernel_rfl
/-- m[n]. -/
theorem Tr.look (h : Tr w B m l V) {n : Nm} (hn : n.ok) : (Instr.lookup 44 (.map (some m)) n.v false).run Try.prog w = .ok (.agg ((tk l n).cs (V n))) w := by
  rw [h.map.look nameLaw Try.underlying44 (zeroTrack w) (name_key n hn), fT_at h.names _ hn]
  by_cases hm : n ∈ (l.map Sn.n).reverse
  · rw [if_pos hm]; rfl
  · rw [if_neg hm]
    have hm' : n ∉ l.map Sn.n := fun e => hm (List.mem_reverse.2 e)
    rw [tk_none hm', h.nil n hm']
    rfl
theorem Tr.made (w : World) (B : Nat) : Tr (w.alloc (.map #[] 0)) B w.heap.size [] (fun _ => .slice none 0 0) :=
  ⟨Mp.made w Try.prog _, (fun x hx => by cases hx), (fun n => World.ownsRow_nil _ B _ _), (fun _ _ => rfl), (fun _ _ _ _ h => by cases h)⟩
/-- The map with one step more. -/
theorem Tr.next {w1 w2 : World} {x : Sn} {g : Nat} {v' : Value} (h : Tr w B m l V) (hx : x.n.ok) (hrow : w1.ownsRow B 55 1 v' (stc (st (l ++ [x]) x.n)).length (stc (st (l ++ [x]) x.n)))
    (hb : v'.ownBlock = (V x.n).ownBlock ∨ ∃ j, v'.ownBlock = some j ∧ w.heap.size ≤ j) (hT : Turns (fun i => i = g ∨ (V x.n).ownBlock = some i) w w1 (fun i => i = g ∨ v'.ownBlock = some i)) (hg : ∃ cs, At w g 54 cs)
    (hm : Mp Try.prog 31 w2 m (upd (fT (l.map Sn.n).reverse fun n => .agg ((tk l n).cs (V n))) x.n.lit (.agg ((nxt l.length x (tk l x.n)).cs v')))) (ht : w1.mapTurned w2 m) :
    Tr w2 B m (l ++ [x]) (fun n => if n = x.n then v' else V n) := by
  have g2 := ht.grown
  obtain ⟨cs, hg⟩ := hg
  obtain ⟨es, cl, hmb⟩ := h.map.block
  have hm1 : ∃ es cl, w1.heap[m]? = some (.map es cl) := by
    obtain ⟨es, cl, _, _, hh, _⟩ := ht
    exact ⟨es, cl, hh⟩
  -- a row's block is not the map's
  have hne1 : ∀ (v : Value) n xs, w1.ownsRow B 55 1 v n xs → ∀ b, v.ownBlock = some b → b ≠ m := by
    rintro v n xs hv b hb rfl
    obtain ⟨cur, hcur, _⟩ := own_typed hv hb
    obtain ⟨es, cl, hh⟩ := hm1
    rw [hcur] at hh
    cases hh
  have rowOld : ∀ n, n ≠ x.n → w1.ownsRow B 55 1 (V n) (st l n).length (stc (st l n)) := fun n hn =>
    own_keep (h.row n) (fun b hb => by
      obtain ⟨cur, hcur, _, hlt⟩ := own_typed (h.row n) hb
      refine hT.block b hlt ?_
      rintro (e | e)
      · subst e; exact own_apart (h.row n) hg (by decide) hb
      · exact h.apart n x.n b hn hb e)
  refine ⟨?_, ?_, ?_, ?_, ?_⟩
  · rw [fT_upd _ _ (fun n => .agg ((tk (l ++ [x]) n).cs (if n = x.n then v' else V n))) (by rw [if_pos rfl, tk_snoc, if_pos rfl]) (fun y hy => by rw [if_neg hy, tk_snoc, if_neg (Ne.symm hy)])] at hm
    rw [List.map_append, List.reverse_append]
    exact hm
  · intro y hy
    rcases List.mem_append.1 hy with hy | hy
    · exact h.ok y hy
    · rw [List.mem_singleton.1 hy]; exact hx
  · intro n
    by_cases hn : n = x.n
    · subst hn
      simp only [if_true]
      rw [stc_len] at hrow
      exact own_keep hrow (fun b hb => g2.block b (own_typed hrow hb).choose_spec.2.2 (fun e => hne1 _ _ _ hrow b hb (by injection e)))
    · simp only [if_neg hn]
      rw [st_snoc, if_neg (fun e => hn e.1.symm), List.append_nil]
      exact own_keep (rowOld n hn) (fun b hb => g2.block b (own_typed (rowOld n hn) hb).choose_spec.2.2 (fun e => hne1 _ _ _ (rowOld n hn) b hb (by injection e)))
  · intro n hn
    simp only [List.map_append, List.map_cons, List.map_nil, List.mem_append, List.mem_singleton, not_or] at hn
    simp only [if_neg hn.2]
    exact h.nil n hn.1
  · have aux : ∀ n b, n ≠ x.n → (V n).ownBlock = some b → v'.ownBlock ≠ some b := fun n b hn h1 h2 => by
      rcases hb with e | ⟨j, e, hj⟩
      · rw [e] at h2; exact h.apart n x.n b hn h1 h2
      · rw [e] at h2
        injection h2 with h2
        obtain ⟨_, _, _, hlt⟩ := own_typed (h.row n) h1
        omega
    intro n n' b hne h1 h2
    by_cases e : n = x.n
    · have e' : n' ≠ x.n := fun e' => hne (e.trans e'.symm)
      simp only [if_pos e] at h1
      simp only [if_neg e'] at h2
      exact aux n' b e' h2 h1
    · simp only [if_neg e] at h1
      by_cases e' : n' = x.n
      · simp only [if_pos e'] at h2
        exact aux n b e h1 h2
      · simp only [if_neg e'] at h2
        exact h.apart n n' b hne h1 h2
end
end Go.Proofs.Ytcailhkaeledbaa
