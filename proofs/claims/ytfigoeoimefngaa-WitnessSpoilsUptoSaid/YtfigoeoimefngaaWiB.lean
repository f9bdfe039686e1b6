/-
  What a write wrote, as a key; what look tells: plain.
-/
import Derived.Test.YtfigoeoimefngaaWiA
import Derived.Test.YtfigoeoimefngaaOrB
namespace Go.Proofs.Ytfigoeoimefngaa
open Go.RowKit Go.Maps Go.ChangeMaps Go.MapKept Go.WideElems

structure Wk where
  b : Int
  y0 : Int
  y1 : Int
  y2 : Int
  y3 : Int
  y4 : Int
  y5 : Int
  y6 : Int
  y7 : Int
deriving DecidableEq
def Wk.cs (a : Wk) : List Value := [.int .i64 a.b, .int .u8 a.y0, .int .u8 a.y1, .int .u8 a.y2, .int .u8 a.y3, .int .u8 a.y4, .int .u8 a.y5, .int .u8 a.y6, .int .u8 a.y7]
def Wk.v (a : Wk) : Value := .agg #[.int .i64 a.b, .int .u8 a.y0, .int .u8 a.y1, .int .u8 a.y2, .int .u8 a.y3, .int .u8 a.y4, .int .u8 a.y5, .int .u8 a.y6, .int .u8 a.y7]
def inB (z : Int) : Prop := 0 ≤ z ∧ z ≤ 255
def Wk.ok (a : Wk) : Prop := inI a.b ∧ inB a.y0 ∧ inB a.y1 ∧ inB a.y2 ∧ inB a.y3 ∧ inB a.y4 ∧ inB a.y5 ∧ inB a.y6 ∧ inB a.y7
theorem wfB {z : Int} (h : inB z) : (Lit.int .u8 z).wf = true := by
  unfold inB at h
  simp [Lit.wf, IntKind.min, IntKind.max, IntKind.signed, IntKind.bits]
  omega
def Wk.lit (a : Wk) : Lit := .string (keyBytes [(.int .i64 a.b), (.int .u8 a.y0), (.int .u8 a.y1), (.int .u8 a.y2), (.int .u8 a.y3), (.int .u8 a.y4), (.int .u8 a.y5), (.int .u8 a.y6), (.int .u8 a.y7)])
theorem wkRow : (73 : TypeId) < Try.prog.types.size := of_decide_eq_true (by kernel_rfl)
theorem wkWide : (match Try.prog.underlying 73 with | some (.array _ _) | some (.struct _) => true | _ => false) = true := by kernel_rfl
theorem wkDeep : Try.prog.keyType 73 = true := by kernel_rfl
theorem wkCells : Try.prog.cellsOf 73 = 9 := by kernel_rfl
theorem valCells : Try.prog.cellsOf 31 = 8 := by kernel_rfl
theorem byteCells : Try.prog.cellsOf 5 = 1 := by kernel_rfl
set_option maxRecDepth 100000 in
theorem typesMore3 : ∃ m, Try.prog.types.size = m + 3 := ⟨Try.prog.types.size - 3, by
  have h : (3 : Nat) ≤ Try.prog.types.size := of_decide_eq_true (by kernel_rfl)
  generalize Try.prog.types.size = s at *
  omega⟩
theorem wk_key (a : Wk) (h : a.ok) : keyOf Try.prog 73 a.v = some a.lit := by
  obtain ⟨m, hm⟩ := typesMore3
  have h1 := wfI h.1
  obtain ⟨_, h2, h3, h4, h5, h6, h7, h8, h9⟩ := h
  have h2 := wfB h2
  have h3 := wfB h3
  have h4 := wfB h4
  have h5 := wfB h5
  have h6 := wfB h6
  have h7 := wfB h7
  have h8 := wfB h8
  have h9 := wfB h9
  have hu := Try.underlying73
  have hv := Try.underlying31
  have hb := Try.underlying5
  have hi := Try.underlying3
  have hd := wkDeep
  have hc := wkCells
  have hcv := valCells
  have hcb := byteCells
  have hc' := intCells
  generalize Try.prog = P at *
  have hl : P.keyLits (P.types.size + 1) 73 [.int .i64 a.b, .int .u8 a.y0, .int .u8 a.y1, .int .u8 a.y2, .int .u8 a.y3, .int .u8 a.y4, .int .u8 a.y5, .int .u8 a.y6, .int .u8 a.y7] = some [(.int .i64 a.b), (.int .u8 a.y0), (.int .u8 a.y1), (.int .u8 a.y2), (.int .u8 a.y3), (.int .u8 a.y4), (.int .u8 a.y5), (.int .u8 a.y6), (.int .u8 a.y7)] := by
    rw [hm]
    simp [hu, hv, hb, Program.keyLits, hc, hc', hcv, hcb, hi, h1, h2, h3, h4, h5, h6, h7, h8, h9, List.range_succ]
  have hf : a.v.formed P 73 = true := by unfold Wk.v; simp [Value.formed, hu, hc]
  unfold Wk.v at *
  unfold keyOf Wk.lit
  rw [hu, hd, hf]
  show Option.map _ (P.keyLits (P.types.size + 1) 73 [.int .i64 a.b, .int .u8 a.y0, .int .u8 a.y1, .int .u8 a.y2, .int .u8 a.y3, .int .u8 a.y4, .int .u8 a.y5, .int .u8 a.y6, .int .u8 a.y7]) = _
  rw [hl, Option.map_some]
set_option maxRecDepth 100000 in
theorem kWk : Ks Try.prog 73 Wk.ok Wk.v Wk.lit := ⟨Keyed.of_law (deep_law_laid laidOut (m := 4) (by omega) wkRow (by kernel_rfl) wkWide), wk_key, fun a b h => by
  unfold Wk.v at h
  cases a
  cases b
  simp at h
  simp [h]⟩
def Sn.wk (x : Sn) : Wk := ⟨x.b, x.x0, x.x1, x.x2, x.x3, x.x4, x.x5, x.x6, x.x7⟩

/-- The name of the last write of that. -/
def lastN (T : List Sn) (k : Wk) : Nm := T.foldl (fun a x => if x.k = 2 ∧ x.wk = k then x.n else a) Nm.zero
theorem lastN_snoc (T : List Sn) (x : Sn) (k : Wk) : lastN (T ++ [x]) k = if x.k = 2 ∧ x.wk = k then x.n else lastN T k := by unfold lastN; rw [List.foldl_append]; rfl
/-- Whose value a read's place tells. -/
def wasA (L : List Sn) (i : Nat) : Nm := match L[i]? with
  | some x => if x.k = 1 then lastN (L.take i) x.wk else Nm.zero
  | none => Nm.zero
def wasF (L : List Sn) (j : Nat) (z : Int) : Nm := if 0 ≤ z ∧ z < j then wasA L z.toNat else Nm.zero
/-- A name's place in an order: from 1 on. -/
def rk (l : List Nm) (n : Nm) : Nat := (l.zipIdx 1).foldl (fun a p => if p.1 = n then p.2 else a) 0
theorem rk_snoc (l : List Nm) (x n : Nm) : rk (l ++ [x]) n = if x = n then l.length + 1 else rk l n := by
  unfold rk
  rw [List.zipIdx_append, List.foldl_append]
  simp [Nat.add_comm]
/-- The reads and writes: name and place. -/
def ev (T : List Sn) : List (Nm × Nat) := (T.zipIdx.filter fun p => rwB p.1).map fun p => (p.1.n, p.2)
theorem ev_snoc (T : List Sn) (x : Sn) : ev (T ++ [x]) = ev T ++ if rwB x = true then [(x.n, T.length)] else [] := by
  unfold ev
  rw [List.zipIdx_append, List.filter_append, List.map_append]
  congr 1
  simp only [List.zipIdx_cons, List.zipIdx_nil, Nat.zero_add, List.filter_cons, List.filter_nil]
  split <;> rfl
def pls (E : List (Nm × Nat)) (n : Nm) : List Nat := (E.filter fun e => e.1 = n).map Prod.snd
theorem pls_snoc (E : List (Nm × Nat)) (e : Nm × Nat) (n : Nm) : pls (E ++ [e]) n = pls E n ++ if e.1 = n then [e.2] else [] := by
  unfold pls
  rw [List.filter_append, List.map_append]
  congr 1
  by_cases h : e.1 = n <;> simp [h]
theorem pls_len (E : List (Nm × Nat)) (n : Nm) : (pls E n).length ≤ E.length := by
  unfold pls
  rw [List.length_map]
  exact List.length_filter_le _ _
theorem ev_len (T : List Sn) : (ev T).length ≤ T.length := by
  unfold ev
  rw [List.length_map]
  exact Nat.le_trans (List.length_filter_le _ _) (by rw [List.length_zipIdx]; exact Nat.le_refl _)
def nts (l : List Nat) : List Value := l.map fun k : Nat => .int .i64 (k : Int)
theorem nts_len (l : List Nat) : (nts l).length = l.length := by unfold nts; rw [List.length_map]

/-- The steps of each name. -/
structure Sw (w : World) (B m : Nat) (E : List (Nm × Nat)) (V : Nm → Value) : Prop where
  map : Mp Try.prog 29 w m (fK Nm.lit (E.map Prod.fst).reverse V)
  ok : ∀ e ∈ E, e.1.ok
  row : ∀ n, w.ownsRow B 3 1 (V n) (pls E n).length (nts (pls E n))
  nil : ∀ n, n ∉ E.map Prod.fst → V n = .slice none 0 0
  apart : ∀ n n' b, n ≠ n' → (V n).ownBlock = some b → (V n').ownBlock ≠ some b
section
variable {w w' : World} {B m : Nat} {E : List (Nm × Nat)} {V : Nm → Value}
theorem Sw.grows (h : Sw w B m E V) (hg : Grows w w') : Sw w' B m E V := ⟨h.map.grows hg, h.ok, fun n => own_grows (h.row n) hg, h.nil, h.apart⟩
theorem Sw.same (h : Sw w B m E V) (hm : w'.heap[m]? = w.heap[m]?) (hr : ∀ n b, (V n).ownBlock = some b → w'.heap[b]? = w.heap[b]?) : Sw w' B m E V :=
  ⟨h.map.same hm, h.ok, fun n => own_keep (h.row n) (hr n), h.nil, h.apart⟩
theorem Sw.names (h : Sw w B m E V) : ∀ n ∈ (E.map Prod.fst).reverse, n.ok := fun n hn => by
  obtain ⟨x, hx, rfl⟩ := List.mem_map.1 (List.mem_reverse.1 hn)
  exact h.ok x hx
theorem zrow (W : World) : (zeroValue 40).run Try.prog W = .ok (.slice none 0 0) W := by kernel_rfl
theorem Sw.at (h : Sw w B m E V) {n : Nm} (hn : n.ok) : (fK Nm.lit (E.map Prod.fst).reverse V n.lit).getD (.slice none 0 0) = V n :=
  kNm.at h.names V hn (fun hm => h.nil n (fun e => hm (List.mem_reverse.2 e)))
theorem Sw.look (h : Sw w B m E V) {n : Nm} (hn : n.ok) : (Instr.lookup 60 (.map (some m)) n.v false).run Try.prog w = .ok (V n) w := by
  rw [h.map.look kNm.keyed Try.underlying60 (zrow w) (name_key n hn), h.at hn]
theorem Sw.made (w : World) (B : Nat) : Sw (w.alloc (.map #[] 0)) B w.heap.size [] (fun _ => .slice none 0 0) :=
  ⟨Mp.made w Try.prog _, (fun x hx => by cases hx), (fun n => World.ownsRow_nil _ B _ _), (fun _ _ => rfl), (fun _ _ _ _ h => by cases h)⟩
/-- A row's block holds cells of ints. -/
theorem Sw.cells (h : Sw w B m E V) {n : Nm} {b : Nat} (hb : (V n).ownBlock = some b) : ∃ cur, w.heap[b]? = some (.cells cur 3 (0, 0)) := by
  obtain ⟨cur, q, _⟩ := own_typed (h.row n) hb
  exact ⟨cur, q⟩
theorem Sw.ne (h : Sw w B m E V) {n : Nm} {b : Nat} (hb : (V n).ownBlock = some b) : b ≠ m := by
  rintro rfl
  obtain ⟨cur, q⟩ := h.cells hb
  obtain ⟨es, cl, q2⟩ := h.map.block
  rw [q2] at q
  cases q
/-- Another map's block may turn. -/
theorem Sw.other (h : Sw w B m E V) {j : Nat} (hj : j ≠ m) (hmap : ∃ es clock, w.heap[j]? = some (.map es clock)) (o : Obj) : Sw (setBlock w j o) B m E V := by
  refine h.same (by simp [setBlock, hj]) (fun n b hb => ?_)
  obtain ⟨cur, q⟩ := h.cells hb
  obtain ⟨es, cl, q2⟩ := hmap
  have : j ≠ b := fun e => by subst e; rw [q2] at q; cases q
  simp [setBlock, this]
/-- One step more. -/
theorem Sw.next {W1 w4 : World} {o o' : Obj} {e : Nm × Nat} {v' : Value} (h : Sw w B m E V) (he : e.1.ok) (h1 : W1 = setBlock w m o) (hown : w4.ownsRow B 3 1 v' ((pls E e.1).length + 1) (nts (pls E e.1) ++ [.int .i64 (e.2 : Int)])) (hg : W1.grownBy w4 (V e.1).ownBlock)
    (hb : v'.ownBlock = (V e.1).ownBlock ∨ v'.ownBlock = some W1.heap.size) (hmp : Mp Try.prog 29 (setBlock w4 m o') m (upd (fK Nm.lit (E.map Prod.fst).reverse V) e.1.lit v')) :
    Sw (setBlock w4 m o') B m (E ++ [e]) (fun n => if n = e.1 then v' else V n) := by
  have hsz : W1.heap.size = w.heap.size := by rw [h1]; simp [setBlock]
  have hset : ∀ (W : World) (o : Obj) i, i ≠ m → (setBlock W m o).heap[i]? = W.heap[i]? := fun W o i hi => by
    simp [setBlock, Ne.symm hi]
  have hk1 : ∀ i, i < w.heap.size → i ≠ m → (V e.1).ownBlock ≠ some i → (setBlock w4 m o').heap[i]? = w.heap[i]? := fun i hi h2 h3 => by
    rw [hset _ _ _ h2, hg.block i (by omega) (Ne.symm h3), h1, hset _ _ _ h2]
  have hne : ∀ b, v'.ownBlock = some b → b ≠ m := by
    intro b hb'
    rcases hb with hb2 | hb2
    · exact h.ne (by rw [← hb2]; exact hb')
    · rw [hb'] at hb2
      injection hb2 with hb2
      have := h.map.lt
      omega
  refine ⟨?_, ?_, ?_, ?_, ?_⟩
  · rw [fK_upd V v' (fun n => if n = e.1 then v' else V n) (by rw [if_pos rfl]) (fun y hy => by rw [if_neg hy])] at hmp
    rw [List.map_append, List.reverse_append]
    exact hmp
  · intro y hy
    rcases List.mem_append.1 hy with hy | hy
    · exact h.ok y hy
    · rw [List.mem_singleton.1 hy]; exact he
  · intro n
    rw [pls_snoc]
    by_cases hn : n = e.1
    · subst hn
      simp only [if_true]
      rw [List.length_append, show nts (pls E e.1 ++ [e.2]) = nts (pls E e.1) ++ [.int .i64 (e.2 : Int)] from by simp [nts]]
      simp only [List.length_singleton]
      exact own_keep hown (fun b hb' => hset _ _ _ (hne b hb'))
    · simp only [if_neg hn, if_neg (Ne.symm hn), List.append_nil]
      refine own_keep (h.row n) (fun b hb' => ?_)
      obtain ⟨_, _, _, hlt⟩ := own_typed (h.row n) hb'
      exact hk1 b hlt (h.ne hb') (fun e2 => h.apart n e.1 b hn hb' e2)
  · intro n hn
    simp only [List.map_append, List.map_cons, List.map_nil, List.mem_append, List.mem_singleton, not_or] at hn
    simp only [if_neg hn.2]
    exact h.nil n hn.1
  · have aux : ∀ n b, n ≠ e.1 → (V n).ownBlock = some b → v'.ownBlock ≠ some b := fun n b hn h2 h3 => by
      rcases hb with e2 | e2
      · rw [e2] at h3; exact h.apart n e.1 b hn h2 h3
      · rw [e2] at h3
        injection h3 with h3
        obtain ⟨_, _, _, hlt⟩ := own_typed (h.row n) h2
        omega
    intro n n' b hne' h2 h3
    by_cases e2 : n = e.1
    · have e' : n' ≠ e.1 := fun e' => hne' (e2.trans e'.symm)
      simp only [if_pos e2] at h2
      simp only [if_neg e'] at h3
      exact aux n' b e' h3 h2
    · simp only [if_neg e2] at h2
      by_cases e' : n' = e.1
      · simp only [if_pos e'] at h3
        exact aux n b e2 h2 h3
      · simp only [if_neg e'] at h3
        exact h.apart n n' b hne' h2 h3
end
end Go.Proofs.Ytfigoeoimefngaa
