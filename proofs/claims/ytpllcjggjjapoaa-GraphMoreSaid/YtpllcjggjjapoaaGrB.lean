/-
  graph.rows: whom each waits for.
-/
import Derived.Test.YtpllcjggjjapoaaGrA
import Derived.Test.YtpllcjggjjapoaaGrP
import Derived.Test.YtpllcjggjjapoaaTu
namespace Go.Proofs.Ytpllcjggjjapoaa
open Go.RowKit Go.Maps Go.ChangeMaps Go.MapKept Go.WideElems

def Edcs (e : Ed) : List Value := e.1.cs ++ e.2.cs
theorem Edcs_len (e : Ed) : (Edcs e).length = 6 := rfl
theorem ncs_len (a : Nm) : a.cs.length = 3 := rfl
/-- The rows of a graph. -/
structure Rw (w : World) (B m : Nat) (E : List Ed) (V : Nm → Value) : Prop where
  map : Mp Try.prog 24 w m (fT (E.map Prod.fst).reverse V)
  ok : ∀ e ∈ E, e.1.ok ∧ e.2.ok
  row : ∀ n, w.ownsRow B 24 3 (V n) (suc E n).length (nms (suc E n))
  nil : ∀ n, n ∉ E.map Prod.fst → V n = .slice none 0 0
  apart : ∀ n n' b, n ≠ n' → (V n).ownBlock = some b → (V n').ownBlock ≠ some b
section
variable {w w' : World} {B m : Nat} {E : List Ed} {V : Nm → Value}
theorem Rw.grows (h : Rw w B m E V) (hg : Grows w w') : Rw w' B m E V := ⟨h.map.grows hg, h.ok, fun n => own_grows (h.row n) hg, h.nil, h.apart⟩
theorem Rw.same (h : Rw w B m E V) (hm : w'.heap[m]? = w.heap[m]?) (hr : ∀ n b, (V n).ownBlock = some b → w'.heap[b]? = w.heap[b]?) : Rw w' B m E V :=
  ⟨h.map.same hm, h.ok, fun n => own_keep (h.row n) (hr n), h.nil, h.apart⟩
theorem Rw.names (h : Rw w B m E V) : ∀ n ∈ (E.map Prod.fst).reverse, n.ok := fun n hn => by
  obtain ⟨x, hx, rfl⟩ := List.mem_map.1 (List.mem_reverse.1 hn)
  exact (h.ok x hx).1
theorem zrow (W : World) : (zeroValue 28).run Try.prog W = .ok (.slice none 0 0) W := by kernel_rfl
theorem Rw.at (h : Rw w B m E V) {n : Nm} (hn : n.ok) : (fT (E.map Prod.fst).reverse V n.lit).getD (.slice none 0 0) = V n := by
  rw [fT_at h.names _ hn]
  by_cases hm : n ∈ (E.map Prod.fst).reverse
  · rw [if_pos hm]; rfl
  · rw [if_neg hm, h.nil n (fun e => hm (List.mem_reverse.2 e))]
    rfl
theorem Rw.look (h : Rw w B m E V) {n : Nm} (hn : n.ok) : (Instr.lookup 35 (.map (some m)) n.v false).run Try.prog w = .ok (V n) w := by
  rw [h.map.look nameLaw Try.underlying35 (zrow w) (name_key n hn), h.at hn]
theorem Rw.made (w : World) (B : Nat) : Rw (w.alloc (.map #[] 0)) B w.heap.size [] (fun _ => .slice none 0 0) :=
  ⟨Mp.made w Try.prog _, (fun x hx => by cases hx), (fun n => World.ownsRow_nil _ B _ _), (fun _ _ => rfl), (fun _ _ _ _ h => by cases h)⟩
/-- A row's block is not the map's. -/
theorem Rw.ne (h : Rw w B m E V) {n : Nm} {b : Nat} (hb : (V n).ownBlock = some b) : b ≠ m := by
  rintro rfl
  obtain ⟨cur, q, _⟩ := own_typed (h.row n) hb
  obtain ⟨es, cl, q2⟩ := h.map.block
  rw [q2] at q
  cases q
/-- One edge more. -/
theorem Rw.next {W1 w4 : World} {o o' : Obj} {e : Ed} {v' : Value} (h : Rw w B m E V) (he : e.1.ok ∧ e.2.ok) (h1 : W1 = setBlock w m o) (hown : w4.ownsRow B 24 3 v' ((suc E e.1).length + 1) (nms (suc E e.1) ++ e.2.cs)) (hg : W1.grownBy w4 (V e.1).ownBlock)
    (hb : v'.ownBlock = (V e.1).ownBlock ∨ v'.ownBlock = some W1.heap.size) (hmp : Mp Try.prog 24 (setBlock w4 m o') m (upd (fT (E.map Prod.fst).reverse V) e.1.lit v')) :
    Rw (setBlock w4 m o') B m (E ++ [e]) (fun n => if n = e.1 then v' else V n) := by
  have hsz : W1.heap.size = w.heap.size := by rw [h1]; simp [setBlock]
  have hset : ∀ (W : World) (o : Obj) i, i ≠ m → (setBlock W m o).heap[i]? = W.heap[i]? := fun W o i hi => by
    simp [setBlock, Ne.symm hi]
  have hk1 : ∀ i, i < w.heap.size → i ≠ m → (V e.1).ownBlock ≠ some i → (setBlock w4 m o').heap[i]? = w.heap[i]? := fun i hi h2 h3 => by
    rw [hset _ _ _ h2, hg.block i (by omega) (Ne.symm h3), h1, hset _ _ _ h2]
  have hne : ∀ b, v'.ownBlock = some b → b ≠ m := by
    intro b hb'
    rcases hb with hb2 | hb2
    · exact h.ne (by rw [← hb2]; exact hb')
    · rw [hb'] at hb2
      injection hb2 with hb2
      have := h.map.lt
      omega
  refine ⟨?_, ?_, ?_, ?_, ?_⟩
  · rw [fT_upd V v' (fun n => if n = e.1 then v' else V n) (by rw [if_pos rfl]) (fun y hy => by rw [if_neg hy])] at hmp
    rw [List.map_append, List.reverse_append]
    exact hmp
  · intro y hy
    rcases List.mem_append.1 hy with hy | hy
    · exact h.ok y hy
    · rw [List.mem_singleton.1 hy]; exact he
  · intro n
    rw [suc_snoc]
    by_cases hn : n = e.1
    · subst hn
      simp only [if_true]
      rw [List.length_append, nms_append]
      simp only [List.length_singleton]
      refine own_keep (by rw [nms_cons, show nms [] = [] from rfl, List.append_nil]; exact hown) (fun b hb' => hset _ _ _ (hne b hb'))
    · simp only [if_neg hn, if_neg (Ne.symm hn), List.append_nil]
      refine own_keep (h.row n) (fun b hb' => ?_)
      obtain ⟨_, _, _, hlt⟩ := own_typed (h.row n) hb'
      exact hk1 b hlt (h.ne hb') (fun e2 => h.apart n e.1 b hn hb' e2)
  · intro n hn
    simp only [List.map_append, List.map_cons, List.map_nil, List.mem_append, List.mem_singleton, not_or] at hn
    simp only [if_neg hn.2]
    exact h.nil n hn.1
  · have aux : ∀ n b, n ≠ e.1 → (V n).ownBlock = some b → v'.ownBlock ≠ some b := fun n b hn h2 h3 => by
      rcases hb with e2 | e2
      · rw [e2] at h3; exact h.apart n e.1 b hn h2 h3
      · rw [e2] at h3
        injection h3 with h3
        obtain ⟨_, _, _, hlt⟩ := own_typed (h.row n) h2
        omega
    intro n n' b hne' h2 h3
    by_cases e2 : n = e.1
    · have e' : n' ≠ e.1 := fun e' => hne' (e2.trans e'.symm)
      simp only [if_pos e2] at h2
      simp only [if_neg e'] at h3
      exact aux n' b e' h3 h2
    · simp only [if_neg e2] at h2
      by_cases e' : n' = e.1
      · simp only [if_pos e'] at h3
        exact aux n b e2 h2 h3
      · simp only [if_neg e'] at h3
        exact h.apart n n' b hne' h2 h3
end
end Go.Proofs.Ytpllcjggjjapoaa
