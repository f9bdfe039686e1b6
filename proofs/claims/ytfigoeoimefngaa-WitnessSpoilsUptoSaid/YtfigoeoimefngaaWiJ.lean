/-
  slices.AppendSeq over the faults: the state between two rounds, and the steps that the round wants.
-/
import Derived.Test.YtfigoeoimefngaaWiI
import Derived.Great.BuildSlice
namespace Go.Proofs.Ytfigoeoimefngaa
open Go.RowKit Go.Maps Go.Shelf
attribute [local go_sem] Oper.semAt_some

section
variable {F : Fence} {n : Nat} {P : Program} {ops : Array Oper} {rest : List Oper} {o : Oper} {a : Act} {w : World} {Q : Exit → Act → World → Prop}
/-- A slice literal of one row, within a fence. -/
theorem wpListIn_buildOne (hgd : o.guard = none) (t e : TypeId) (y : Operand) (ho : o.op = .buildSlice t 1 #[(0, y)]) (cells : Array Value) (ie : TypeInfo) (z : Value) (hu : P.underlying t = some (.slice e)) (hie : P.info? e = some ie) (hz : ie.zero = some z) (hs : ie.size = cells.size) (hpos : 0 < cells.size) (hsm : cells.size ≤ 1000)
    (hy : a.eval y = .agg cells) (h : wpListIn F n P ops Q rest (a.put o.dst (.slice (some ⟨w.heap.size, 0, none⟩) 1 1)) (w.alloc (.cells cells e))) : wpListIn F n P ops Q (o :: rest) a w := by
  have hf : Instr.fill (fun i => some (i * ie.size, ie.size)) ((Array.range (1 * ie.size)).map (z.cells[· % z.cells.size]!)) [(0, .agg cells)] = some cells := by
    have := Great.fill_whole (s := ie.size) (by omega) [.agg cells] ((Array.range (1 * ie.size)).map (z.cells[· % z.cells.size]!)) (by intro v hv; simp only [List.mem_cons, List.not_mem_nil, or_false] at hv; subst hv; exact hs.symm) (by simp)
    rw [show ([.agg cells] : List Value).flatMap (fun v => v.cells.toList) = cells.toList by simp [Value.cells]] at this
    rw [show cells.toList.toArray = cells by simp] at this
    exact this
  have hrun := run_buildSlice (P := P) w t e 1 #[(0, .agg cells)] cells ie z hu hie hz (by rw [hs]; omega) (by rw [hs]; omega) hf
  refine wpListIn_plain hgd fun K hK' => ?_
  unfold Oper.wpIn
  refine ⟨?_, ?_⟩
  · simp [Oper.about, ho]
  · rw [Oper.semAt_plain F _ _ (by rw [ho]; intro c hc'; cases hc')]
    simp only [execOp, ho, List.map_toArray, List.map_cons, List.map_nil, hy, Sem.run_bind, hrun, Result.andThen_ok]
    exact hK' _ _ h
/-- append onto a row of the call's own, within a fence. -/
theorem wpListIn_append_rd (hgd : o.guard = none) (s x : Operand) (t : TypeId)
    (ho : o.op = .call { callee := .builtin .append, args := #[s, x], argTypes := #[t, t] })
    (base : Nat) (e : TypeId) (i : TypeInfo) (z : Value) (size bytes : Nat) (ht : P.underlying t = some (.slice e)) (hi : P.info? e = some i) (hz : i.zero = some z)
    (hsize : i.size = size) (hby : i.bytes = bytes) (hzs : z.cells.size = size) (hsz : 0 < size)
    (v : Value) (k : Nat) (xs : List Value) (hs : a.eval s = v) (hown : w.ownsRow base e size v k xs)
    (A : Option Addr) (m c : Nat) (news : List Value) (hx : a.eval x = .slice A m c) (hr : Rd w A news) (hm : news.length = m * size) (h1 : ∀ u ∈ news, u.oneCell' = true)
    (h63 : k + m ≤ maxLen) (hbytes : (k + m) * bytes ≤ 140737488355328) (hbase : base ≤ w.heap.size)
    (h : ∀ v' w', w'.ownsRow base e size v' (k + m) (xs ++ news) → w.grownBy w' v.ownBlock → (v'.ownBlock = v.ownBlock ∨ v'.ownBlock = some w.heap.size) → wpListIn F n P ops Q rest (a.put o.dst v') w') : wpListIn F n P ops Q (o :: rest) a w := by
  obtain ⟨v', w', hrun, h2, h3, h4⟩ := run_append_rd (P := P) w base t o.type e i z size bytes ht hi hz hsize hby hzs hsz v k xs hown A m c news hr hm h1 h63 hbytes hbase
  refine wpListIn_plain hgd fun K hK' => ?_
  unfold Oper.wpIn
  refine ⟨?_, ?_⟩
  · simp [Oper.about, ho, resolve, Target.leads, Sem.run_pure]
  · rw [Oper.semAt_plain F _ _ (by rw [ho]; intro c hc'; cases hc')]
    simp only [execOp, ho, resolve, invoke, builtin, Sem.run_bind, Sem.run_pure, Result.andThen_ok, List.map_toArray, List.map_cons, List.map_nil, hs, hx, hrun]
    exact hK' _ _ (h v' w' h2 h3 h4)
end
theorem VwB.grows {W W' : World} {bl : Nat} {L : List Sn} {a : Option Addr} {n cap : Nat} {a' : Option Addr} {c' r : Nat} {V : Nm → Value} (h : VwB W bl L a n cap a' c' r V) (hg : Grows W W') : VwB W' bl L a n cap a' c' r V := ⟨h.box.grows hg, h.rd.grows hg, h.names.grows hg, h.vw.grows hg⟩
/-- The state of AppendSeq between two rounds. -/
structure CJ (w0 : World) (fs : List Ft) (rc : Loop) (k : Nat) (O : Nat → Prop) (W' : World) (v : Value) : Prop where
  own : W'.ownsRow (w0.heap.size + 3) 34 28 v k (rowsOf Ft.cs (fs.take k))
  box : At W' w0.heap.size 24 #[v]
  o : ∀ i, O i ↔ i = w0.heap.size ∨ i = w0.heap.size + 2 ∨ v.ownBlock = some i
  g : Grows w0 W'
  dfr : W'.heap[w0.heap.size + 1]? = some (.deferred (some []))
  loop : W'.heap[w0.heap.size + 2]? = some (.loop rc)
  size : w0.heap.size + 3 ≤ W'.heap.size
theorem CJ.keep {w0 W' W'' : World} {fs : List Ft} {rc : Loop} {k : Nat} {O : Nat → Prop} {v : Value} (h : CJ w0 fs rc k O W' v) (hk : Kp (w0.heap.size + 3) O W' W'') : CJ w0 fs rc k O W'' v := by
  have hs := h.size
  refine ⟨own_keep h.own (fun b hb => hk.block b ?_ (.inr ((h.o b).2 (.inr (.inr hb))))), ?_, h.o, ⟨hk.os.trans h.g.os, hk.tape.trans h.g.tape, hk.output.trans h.g.output, Nat.le_trans h.g.size hk.size, fun i hi => (hk.block i (by omega) (.inl (by omega))).trans (h.g.block i hi)⟩, ?_, ?_, Nat.le_trans h.size hk.size⟩
  · exact (own_typed h.own hb).choose_spec.2.2
  · exact (hk.block _ (by omega) (.inl (by omega))).trans h.box
  · exact (hk.block _ (by omega) (.inl (by omega))).trans h.dfr
  · exact (hk.block _ (by omega) (.inl (by omega))).trans h.loop
end Go.Proofs.Ytfigoeoimefngaa
