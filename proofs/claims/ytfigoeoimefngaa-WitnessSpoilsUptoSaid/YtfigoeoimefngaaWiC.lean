/-
  witness.look: what is under way.
-/
import Derived.Test.YtfigoeoimefngaaWiB
import Derived.Test.YtfigoeoimefngaaZb
import Derived.Test.YtfigoeoimefngaaZa
namespace Go.Proofs.Ytfigoeoimefngaa
open Go.RowKit Go.Maps Go.ChangeMaps Go.MapKept Go.WideElems

/-- What look has made of the first j names and the first i steps. -/
structure LkA (w1 W : World) (vw : List Value) (L : List Sn) (d : List Nm) (j i p : Nat) (V : Nm → Value) : Prop where
  g : Grows w1 W
  view : At W (w1.heap.size + 3) 63 vw.toArray
  rank : KM Try.prog 29 Nm.ok Nm.lit (.int .i64 0) W w1.heap.size j (fun n => .int .i64 (rk (d.take j) n : Nat))
  steps : Sw W w1.heap.size (w1.heap.size + 1) (ev (L.take i)) V
  was : KM Try.prog 3 inI (Lit.int .i64) Nm.zero.v W (w1.heap.size + 2) p (fun z => (wasF L p z).v)
section
variable {w1 W W' : World} {vw : List Value} {L : List Sn} {d : List Nm} {j i p : Nat} {V : Nm → Value}
theorem LkA.grows (h : LkA w1 W vw L d j i p V) (hg : Grows W W') : LkA w1 W' vw L d j i p V := ⟨h.g.trans hg, h.view.grows hg, h.rank.grows hg, h.steps.grows hg, h.was.grows hg⟩
theorem zint (W : World) : (zeroValue 3).run Try.prog W = .ok (.int .i64 0) W := by kernel_rfl
theorem znm (W : World) : (zeroValue 29).run Try.prog W = .ok Nm.zero.v W := by kernel_rfl
theorem LkA.rankNext (h : LkA w1 W vw L d j i p V) (hj : j < 1000000) {x : Nm} (hx : d[j]? = some x) (ho : x.ok) :
    ∃ o, (Instr.mapUpdate 59 (.map (some w1.heap.size)) x.v (.int .i64 ((j : Int) + 1))).run Try.prog W = .ok () (setBlock W w1.heap.size o) ∧ LkA w1 (setBlock W w1.heap.size o) vw L d (j + 1) i p V := by
  have hlt : j < d.length := (List.getElem?_eq_some_iff.1 hx).1
  have ht : d.take (j + 1) = d.take j ++ [x] := by rw [List.take_add_one, hx]; rfl
  obtain ⟨o, h1, h2⟩ := h.rank.store kNm Try.underlying59 (by simp [maxLen]; omega) ho (.int .i64 ((j : Int) + 1)) (fun n => .int .i64 (rk (d.take (j + 1)) n : Nat))
    (by rw [ht, rk_snoc, if_pos rfl, List.length_take, Nat.min_eq_left (by omega)]; rfl) (fun y hy => by rw [ht, rk_snoc, if_neg (Ne.symm hy)])
  exact ⟨o, h1, h.g.turn (Nat.le_refl _) o, h.view.turn (by omega) o, h2, h.steps.other (by omega) h.rank.block o, h.was.same (turn_ne o (by omega))⟩
theorem wasF_next (L : List Sn) (i : Nat) (z : Int) : wasF L (i + 1) z = if z = (i : Int) then wasA L i else wasF L i z := by
  unfold wasF
  by_cases h : z = (i : Int)
  · subst h
    rw [if_pos (by omega), if_pos rfl]
    rfl
  · rw [if_neg h]
    by_cases h2 : 0 ≤ z ∧ z < (i : Int)
    · rw [if_pos h2, if_pos (by omega)]
    · rw [if_neg h2, if_neg (by omega)]
/-- A read: whose value it tells. -/
theorem LkA.read (h : LkA w1 W vw L d j i p V) (hp : p < 1000000) :
    ∃ o, (Instr.mapUpdate 61 (.map (some (w1.heap.size + 2))) (.int .i64 (p : Int)) (wasA L p).v).run Try.prog W = .ok () (setBlock W (w1.heap.size + 2) o) ∧ LkA w1 (setBlock W (w1.heap.size + 2) o) vw L d j i (p + 1) V := by
  obtain ⟨o, h1, h2⟩ := h.was.store kInt Try.underlying61 (by simp [maxLen]; omega) (a := (p : Int)) (by unfold inI; omega) (wasA L p).v (fun z => (wasF L (p + 1) z).v)
    (by rw [wasF_next, if_pos rfl]) (fun y hy => by rw [wasF_next, if_neg hy])
  exact ⟨o, h1, h.g.turn (by omega) o, h.view.turn (by omega) o, h.rank.same (turn_ne o (by omega)), h.steps.other (by omega) h.was.block o, h2⟩
theorem KM.more {α : Type} {P : Program} {k : TypeId} {ok : α → Prop} {lit : α → Lit} {z : Value} {w : World} {m c c' : Nat} {f : α → Value} (h : KM P k ok lit z w m c f) (hc : c ≤ c') : KM P k ok lit z w m c' f := by
  obtain ⟨N, h1, h2⟩ := h
  exact ⟨N, Nat.le_trans h1 hc, h2⟩
/-- No read: no place more. -/
theorem wasF_none {x : Sn} (hx : L[p]? = some x) (hk : x.k ≠ 1) : wasF L (p + 1) = wasF L p := by
  funext z
  rw [wasF_next]
  split
  · rename_i e
    subst e
    unfold wasA wasF
    rw [hx, if_neg (show ¬ (0 ≤ (p : Int) ∧ (p : Int) < (p : Int)) by omega)]
    simp only [if_neg hk]
  · rfl
theorem LkA.pass (h : LkA w1 W vw L d j i p V) {x : Sn} (hx : L[p]? = some x) (hk : x.k ≠ 1) : LkA w1 W vw L d j i (p + 1) V :=
  ⟨h.g, h.view, h.rank, h.steps, by rw [wasF_none hx hk]; exact h.was.more (by omega)⟩
theorem LkA.skip (h : LkA w1 W vw L d j i p V) {x : Sn} (hx : L[i]? = some x) (hk : rwB x = false) : LkA w1 W vw L d j (i + 1) p V :=
  ⟨h.g, h.view, h.rank, by rw [List.take_add_one, hx]; show Sw _ _ _ (ev (L.take i ++ [x])) _; rw [ev_snoc, hk]; simpa using h.steps, h.was⟩
/-- The names of the last writes. -/
def LkL (W : World) (l : Nat) (L : List Sn) (i : Nat) : Prop := KM Try.prog 73 Wk.ok Wk.lit Nm.zero.v W l i (fun k => (lastN (L.take i) k).v)
theorem LkL.pass (h : LkL W p L i) {x : Sn} (hx : L[i]? = some x) (hk : x.k ≠ 2) : LkL W p L (i + 1) := by
  unfold LkL at *
  have : (fun k => (lastN (L.take (i + 1)) k).v) = fun k => (lastN (L.take i) k).v := by
    funext k
    rw [List.take_add_one, hx]
    show (lastN (L.take i ++ [x]) k).v = _
    rw [lastN_snoc, if_neg (fun e => hk e.1)]
  rw [this]
  exact h.more (by omega)
theorem LkL.write (h : LkL W p L i) (hi : i < 1000000) {x : Sn} (hx : L[i]? = some x) (hk : x.k = 2) (ho : x.wk.ok) :
    ∃ o, (Instr.mapUpdate 71 (.map (some p)) x.wk.v x.n.v).run Try.prog W = .ok () (setBlock W p o) ∧ LkL (setBlock W p o) p L (i + 1) := by
  have ht : L.take (i + 1) = L.take i ++ [x] := by rw [List.take_add_one, hx]; rfl
  exact KM.store h kWk Try.underlying71 (by simp [maxLen]; omega) ho x.n.v _ (by rw [ht, lastN_snoc, if_pos ⟨hk, rfl⟩]) (fun y hy => by rw [ht, lastN_snoc, if_neg (fun e => hy e.2.symm)])
theorem LkL.look (h : LkL W p L i) {x : Sn} (hx : L[i]? = some x) (hk : x.k = 1) (ho : x.wk.ok) : (Instr.lookup 71 (.map (some p)) x.wk.v false).run Try.prog W = .ok (wasA L i).v W := by
  rw [KM.look h kWk Try.underlying71 (znm W) ho]
  unfold wasA
  rw [hx]
  simp only [if_pos hk]
/-- Another map of look's turns. -/
theorem LkA.last (h : LkA w1 W vw L d j i p V) {l : Nat} (hl : w1.heap.size + 4 ≤ l) (hm : ∃ es clock, W.heap[l]? = some (.map es clock)) (o : Obj) : LkA w1 (setBlock W l o) vw L d j i p V :=
  ⟨h.g.turn (by omega) o, h.view.turn (by omega) o, h.rank.same (turn_ne o (by omega)), h.steps.other (by omega) hm o, h.was.same (turn_ne o (by omega))⟩
theorem LkL.other {l m : Nat} (h : LkL W l L i) (hm : l ≠ m) (o : Obj) : LkL (setBlock W m o) l L i := KM.same h (turn_ne o hm)
/-- A step's place at its name: the entry, then the store into it. -/
theorem LkA.entry (h : LkA w1 W vw L d j i p V) (hi : i < 1000000) {x : Sn} (hx : L[i]? = some x) (hk : rwB x = true) (ho : x.n.ok) :
    ∃ st W1, (Instr.mapEntry 60 (.map (some (w1.heap.size + 1))) x.n.v).run Try.prog W = .ok (.tuple #[V x.n, st]) W1 ∧ W1.ownsRow w1.heap.size 3 1 (V x.n) (pls (ev (L.take i)) x.n).length (nts (pls (ev (L.take i)) x.n)) ∧ W1.heap.size = W.heap.size ∧ (∀ b, b ≠ w1.heap.size + 1 → W1.heap[b]? = W.heap[b]?) ∧
      ∀ v4 w4, w4.ownsRow w1.heap.size 3 1 v4 ((pls (ev (L.take i)) x.n).length + 1) (nts (pls (ev (L.take i)) x.n) ++ [.int .i64 (i : Int)]) → W1.grownBy w4 (V x.n).ownBlock → (v4.ownBlock = (V x.n).ownBlock ∨ v4.ownBlock = some W1.heap.size) →
        ∃ W5, (Instr.entryStore 60 (.map (some (w1.heap.size + 1))) st v4).run Try.prog w4 = .ok () W5 ∧ LkA w1 W5 vw L d j (i + 1) p (fun n => if n = x.n then v4 else V n) ∧ ∀ l es cl, W.heap[l]? = some (.map es cl) → l ≠ w1.heap.size + 1 → W5.heap[l]? = W.heap[l]? := by
  have hE : ev (L.take (i + 1)) = ev (L.take i) ++ [(x.n, i)] := by
    have hlt : i < L.length := (List.getElem?_eq_some_iff.1 hx).1
    rw [List.take_add_one, hx]
    show ev (L.take i ++ [x]) = _
    rw [ev_snoc, if_pos hk, List.length_take, Nat.min_eq_left (by omega)]
  have hlen : (ev (L.take i)).length ≤ i := Nat.le_trans (ev_len _) (by rw [List.length_take]; omega)
  obtain ⟨st, o, hme, hes⟩ := h.steps.map.entry nameKL Try.underlying60 zrow (((ev (L.take i)).map Prod.fst).reverse.map Nm.lit) fK_mem (by simp [maxLen]; omega) (name_key x.n ho)
  rw [h.steps.at ho] at hme
  have hmlt := h.steps.map.lt
  have hsz1 : (setBlock W (w1.heap.size + 1) o).heap.size = W.heap.size := turn_size o
  have hb1 : ∀ b, b ≠ w1.heap.size + 1 → (setBlock W (w1.heap.size + 1) o).heap[b]? = W.heap[b]? := fun b hb => turn_ne o hb
  have hb2 : (setBlock W (w1.heap.size + 1) o).heap[w1.heap.size + 1]? = some o := by
    obtain ⟨es, cl, q⟩ := h.steps.map.block
    exact heap_setBlock_same q _
  refine ⟨st, _, hme, own_keep (h.steps.row x.n) (fun b hb => hb1 b (h.steps.ne hb)), hsz1, hb1, ?_⟩
  intro v4 w4 hown hgr hbl
  have hno : (V x.n).ownBlock ≠ some (w1.heap.size + 1) := fun e => h.steps.ne e rfl
  have hm4 : w4.heap[w1.heap.size + 1]? = some o := (hgr.block _ (by rw [hsz1]; exact hmlt) (Ne.symm hno)).trans hb2
  obtain ⟨o', hrun, hmp⟩ := hes w4 v4 hm4
  have hnx := h.steps.next (e := (x.n, i)) ho rfl hown hgr hbl hmp
  have hfr : ∀ l, l < W.heap.size → l ≠ w1.heap.size + 1 → (V x.n).ownBlock ≠ some l → (setBlock w4 (w1.heap.size + 1) o').heap[l]? = W.heap[l]? := fun l hl h1 h2 => by
    rw [turn_ne o' h1, hgr.block l (by rw [hsz1]; exact hl) (Ne.symm h2), hb1 l h1]
  have hmap : ∀ l es cl, W.heap[l]? = some (.map es cl) → l ≠ w1.heap.size + 1 → (setBlock w4 (w1.heap.size + 1) o').heap[l]? = W.heap[l]? := fun l es cl q h1 => by
    refine hfr l (Array.getElem?_eq_some_iff.1 q).1 h1 (fun e => ?_)
    obtain ⟨cur, q2⟩ := h.steps.cells e
    rw [q] at q2
    cases q2
  have hlow : ∀ b, (V x.n).ownBlock = some b → w1.heap.size ≤ b := fun b hb => by
    obtain ⟨_, _, q, _⟩ := own_typed (h.steps.row x.n) hb
    omega
  refine ⟨_, hrun, ⟨?_, ?_, ?_, ?_, ?_⟩, hmap⟩
  · refine Grows.turn ⟨hgr.os.trans h.g.os, hgr.tape.trans h.g.tape, hgr.output.trans h.g.output, by have := hgr.size; have := h.g.size; omega, fun b hb => ?_⟩ (by omega) o'
    have := h.g.size
    rw [hgr.block b (by omega) (fun e => by have := hlow b e.symm; omega), hb1 b (by omega)]
    exact h.g.block b hb
  · refine (hfr _ h.view.lt (by omega) (fun e => ?_)).trans h.view
    obtain ⟨cur, q2⟩ := h.steps.cells e
    have := h.view
    unfold At at this
    rw [this] at q2
    injection q2 with q2
    injection q2 with _ q2
    exact absurd q2 (by decide)
  · obtain ⟨es, cl, q⟩ := h.rank.block
    exact h.rank.same (hmap _ es cl q (by omega))
  · rw [hE]
    exact hnx
  · obtain ⟨es, cl, q⟩ := h.was.block
    exact h.was.same (hmap _ es cl q (by omega))
theorem LkL.block {l : Nat} (h : LkL W l L i) : ∃ es clock, W.heap[l]? = some (.map es clock) := KM.block h
end
end Go.Proofs.Ytfigoeoimefngaa
