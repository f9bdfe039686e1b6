/-
  A map in a block, whose elements are values of whatever type: what it holds is a function of the key; look-up, store, range, clear, copy.
-/
import Derived.Test.YtpllcjggjjapoaaBase
import Derived.Maps.RangeWalk
import Derived.Maps.Ext
namespace Go.Proofs.Ytpllcjggjjapoaa
open Go.RowKit Go.Maps Go.ChangeMaps Go.MapKept Go.WideElems

/-- An element that is taken as it stands. -/
def rawE (v : Value) : Option (DataW Value × List MemPlace) := some (.held v, [])

def View (D : DataW Value) (f : Lit → Option Value) : Prop := ∀ kl, Maps.has D kl = (f kl).isSome ∧ ∀ v, f kl = some v → ∀ zd, D.atKey kl zd = .held v

/-- Block m is a map; f says what it holds. -/
def Mp (P : Program) (k : TypeId) (w : World) (m : Nat) (f : Lit → Option Value) : Prop := ∃ D, w.ownsMap P k rawE m (Maps.size D) D ∧ View D f

/-- f with v at kl. -/
def upd (f : Lit → Option Value) (kl : Lit) (v : Value) : Lit → Option Value := fun z => if z.sameKey kl then some v else f z

theorem size_le_keys : ∀ (es : List (Lit × DataW Value)) (L : List Lit), es.Pairwise (fun p q => p.1 ≠ q.1) → (∀ p ∈ es, p.1 ∈ L) → es.length ≤ L.length
  | [], _, _, _ => Nat.zero_le _
  | x :: es, L, hp, hm => by
    obtain ⟨h1, h2⟩ := List.pairwise_cons.1 hp
    obtain ⟨s, t, rfl⟩ := List.append_of_mem (hm x (by simp))
    have := size_le_keys es (s ++ t) h2 fun p hpm => by
      have h3 := hm p (by simp [hpm])
      have h4 := h1 p hpm
      simp only [List.mem_append, List.mem_cons] at h3 ⊢
      rcases h3 with h3 | h3 | h3
      · exact .inl h3
      · exact absurd h3.symm h4
      · exact .inr h3
    simp only [List.length_append, List.length_cons] at this ⊢
    omega

section
variable {P : Program} {k : TypeId} {w w' : World} {m : Nat} {f : Lit → Option Value}

theorem Mp.made (w : World) (P : Program) (k : TypeId) : Mp P k (w.alloc (.map #[] 0)) w.heap.size (fun _ => none) :=
  ⟨.map [], World.ownsMap_made w P k rawE, fun kl => ⟨rfl, fun v h => by cases h⟩⟩
theorem Mp.lt (h : Mp P k w m f) : m < w.heap.size := by obtain ⟨D, h, _⟩ := h; exact h.lt
theorem Mp.block (h : Mp P k w m f) : ∃ es clock, w.heap[m]? = some (.map es clock) := by
  obtain ⟨D, ⟨es, clock, hb, _⟩, _⟩ := h
  exact ⟨es, clock, hb⟩
/-- The map's block lies as it lay. -/
theorem Mp.same (h : Mp P k w m f) (hb : w'.heap[m]? = w.heap[m]?) : Mp P k w' m f := by
  obtain ⟨D, ⟨es, clock, h1, h2⟩, h3⟩ := h
  exact ⟨D, ⟨es, clock, hb.trans h1, h2⟩, h3⟩
theorem Mp.grows (h : Mp P k w m f) (hg : Grows w w') : Mp P k w' m f := h.same (hg.block m h.lt)
theorem Mp.size_le (h : Mp P k w m f) (K : Keyed P k) (L : List Lit) (hL : ∀ kl, (f kl).isSome = true → kl ∈ L) : ∃ D, w.ownsMap P k rawE m L.length D ∧ View D f := by
  obtain ⟨D, h1, h2⟩ := h
  refine ⟨D, h1.mono ?_, h2⟩
  obtain ⟨es, rfl, h3, h4⟩ := h1.entries K
  refine size_le_keys es L h3 fun p hp => hL _ ?_
  rw [← (h2 p.1).1]
  exact List.any_eq_true.2 ⟨p, hp, WideAt.sameKey_self (h4 p hp)⟩
theorem View.put {D : DataW Value} (h : View D f) (hD : IsMap D) {kl : Lit} (hk : WideAt.IsKeyLit kl) (v : Value) : View (D.put kl (.held v)) (upd f kl v) := by
  intro z
  unfold upd
  by_cases e : z = kl
  · subst e
    rw [WideAt.sameKey_self hk, if_pos rfl]
    refine ⟨has_put_same hD hk _, fun u hu zd => ?_⟩
    injection hu with hu
    subst hu
    exact atKey_put_same hD hk _ _
  · rw [sameKey_ne e]
    simp only [Bool.false_eq_true, if_false]
    refine ⟨(has_put_other e _).trans (h z).1, fun u hu zd => ?_⟩
    rw [atKey_put_other e]
    exact (h z).2 u hu zd
/-- m[key]. -/
theorem Mp.look {t e : TypeId} (h : Mp P k w m f) (K : Keyed P k) (ht : P.underlying t = some (.map k e)) {z : Value} (hz : (zeroValue e).run P w = .ok z w) {key : Value} {kl : Lit} (hkey : keyOf P k key = some kl) :
    (Instr.lookup t (.map (some m)) key false).run P w = .ok ((f kl).getD z) w := by
  obtain ⟨D, h1, h2⟩ := h
  obtain ⟨v, ps, hrun, hv⟩ := h1.lookup K ht hz (zd := .held z) (zp := []) rfl hkey
  have e1 : DataW.held v = D.atKey kl (.held z) := by
    have := congrArg (fun o => o.map Prod.fst) hv
    simpa [rawE] using this
  cases hf : f kl with
  | none =>
    have := (h2 kl).1
    rw [hf] at this
    rw [atKey_of_not_has this] at e1
    injection e1 with e1
    rw [hrun, e1]
    rfl
  | some u =>
    rw [(h2 kl).2 u hf] at e1
    injection e1 with e1
    rw [hrun, e1]
    rfl
theorem Mp.look_ok {t e : TypeId} (h : Mp P k w m f) (K : Keyed P k) (ht : P.underlying t = some (.map k e)) {z : Value} (hz : (zeroValue e).run P w = .ok z w) {key : Value} {kl : Lit} (hkey : keyOf P k key = some kl) :
    (Instr.lookup t (.map (some m)) key true).run P w = .ok (.tuple #[(f kl).getD z, .bool (f kl).isSome]) w := by
  obtain ⟨D, h1, h2⟩ := h
  obtain ⟨v, ps, hrun, hv⟩ := h1.look_ok K ht hz (zd := .held z) (zp := []) rfl hkey
  have e1 : DataW.held v = D.atKey kl (.held z) := by
    have := congrArg (fun o => o.map Prod.fst) hv
    simpa [rawE] using this
  rw [(h2 kl).1] at hrun
  cases hf : f kl with
  | none =>
    have := (h2 kl).1
    rw [hf] at this
    rw [atKey_of_not_has this] at e1
    injection e1 with e1
    rw [hrun, e1, hf]
    rfl
  | some u =>
    rw [(h2 kl).2 u hf] at e1
    injection e1 with e1
    rw [hrun, e1, hf]
    rfl
/-- m[key] = v. -/
theorem Mp.store {t e : TypeId} (h : Mp P k w m f) (K : Keyed P k) (ht : P.underlying t = some (.map k e)) (L : List Lit) (hL : ∀ kl, (f kl).isSome = true → kl ∈ L) (hn : L.length < maxLen) {key v : Value} {kl : Lit} (hkey : keyOf P k key = some kl) :
    ∃ w', (Instr.mapUpdate t (.map (some m)) key v).run P w = .ok () w' ∧ Mp P k w' m (upd f kl v) ∧ w.mapTurned w' m := by
  obtain ⟨D, h1, h2⟩ := h.size_le K L hL
  obtain ⟨w', hrun, h3, h4⟩ := h1.store K ht hn (d := .held v) (ps := []) hkey rfl
  refine ⟨w', hrun, ⟨_, ?_, h2.put h1.isMap (K.key hkey) v⟩, h4⟩
  obtain ⟨es, clock, e1, e2, e3, e4⟩ := h3
  refine ⟨es, clock, e1, e2, ?_, e4⟩
  rw [e4]
  simp [Maps.size, length_sorted]
/-- clear(m). -/
theorem Mp.clear {t e : TypeId} (h : Mp P k w m f) (ht : P.underlying t = some (.map k e)) (ty : TypeId) :
    ∃ w', (Builtin.clear_ #[t] ty #[.map (some m)]).run P w = .ok (.tuple #[]) w' ∧ Mp P k w' m (fun _ => none) ∧ w.mapTurned w' m := by
  obtain ⟨D, ⟨es, clock, hb, _⟩, _⟩ := h
  refine ⟨setBlock w m (.map #[] clock), by simp [Builtin.clear_, run_underlying ht, MapKept.run_getObj_map hb, MapKept.run_setObj_map _ hb, Result.andThen, setBlock], ⟨.map [], ⟨#[], clock, heap_setBlock_same hb _, ⟨by simp, ?_, by simp⟩, Nat.le_refl _, rfl⟩, fun kl => ⟨rfl, fun v h => by cases h⟩⟩, ⟨es, clock, #[], clock, hb, rfl⟩⟩
  exact stamped_empty clock

theorem Mp.clone (h : Mp P k w m f) {es : Array MapEntry} {clock : Nat} (hb : w.heap[m]? = some (.map es clock)) : Mp P k (w.alloc (.map es clock)) w.heap.size f := by
  obtain ⟨D, ⟨es', clock', h1, h2⟩, h3⟩ := h
  rw [hb] at h1
  cases h1
  exact ⟨D, ⟨es, clock, (MapKept.heap_alloc w _).1, h2⟩, h3⟩

/-- A range over the map is under way. -/
def Rg (P : Program) (k : TypeId) (w : World) (m r : Nat) (f : Lit → Option Value) (left : Lit → Bool) (cnt : Nat) : Prop := ∃ D, w.ranges P k rawE m r (Maps.size D) D left cnt ∧ View D f
theorem Rg.same {r cnt : Nat} {left : Lit → Bool} (h : Rg P k w m r f left cnt) (hb : w'.heap[m]? = w.heap[m]?) (hr : w'.heap[r]? = w.heap[r]?) : Rg P k w' m r f left cnt := by
  obtain ⟨D, ⟨es, clock, since, seen, c0, h1, h2, h3, h4, h5, h6⟩, hv⟩ := h
  exact ⟨D, ⟨es, clock, since, seen, c0, hb.trans h1, h2, h3, h4, hr.trans h5, h6⟩, hv⟩
theorem Rg.lt {r cnt : Nat} {left : Lit → Bool} (h : Rg P k w m r f left cnt) : r < w.heap.size := by obtain ⟨D, h, _⟩ := h; exact h.lt
theorem Rg.ne {r cnt : Nat} {left : Lit → Bool} (h : Rg P k w m r f left cnt) : r ≠ m := by obtain ⟨D, h, _⟩ := h; exact h.ne
theorem Rg.mp {r cnt : Nat} {left : Lit → Bool} (h : Rg P k w m r f left cnt) : Mp P k w m f := by obtain ⟨D, h, hv⟩ := h; exact ⟨D, h.owns, hv⟩
theorem Rg.grows {r cnt : Nat} {left : Lit → Bool} (h : Rg P k w m r f left cnt) (hg : Grows w w') : Rg P k w' m r f left cnt := h.same (hg.block m h.mp.lt) (hg.block r h.lt)
end

section
variable {P : Program} (w : World) {ops : Array Oper} {rest : List Oper} {o : Oper} {a : Act} {Q : Exit → Act → World → Prop}
/-- m[key] at the operation. -/
theorem wpList_lookup_mp (hg : o.guard = none) (x y : Operand) (t : TypeId) (hop : o.op = Op.lookup t x y false) (k e : TypeId) (K : Keyed P k) (ht : P.underlying t = some (.map k e)) {z : Value} (hz : (zeroValue e).run P w = .ok z w) (m : Nat) (f : Lit → Option Value)
    (hm : a.eval x = .map (some m)) (h : Mp P k w m f) (key : Value) (kl : Lit) (hy : a.eval y = key) (hkey : keyOf P k key = some kl) (u : Value) (hu : (f kl).getD z = u)
    (hK : wpList P ops Q rest (a.put o.dst u) w) : wpList P ops Q (o :: rest) a w := by
  refine wpList_plain hg fun K' hK' => ?_
  have hrun := h.look K ht hz hkey
  rw [hu] at hrun
  unfold Oper.wp
  simp [execOp, hop, hm, hy, hrun, Result.andThen]
  exact hK' _ _ hK
theorem wpList_mapUpdate_mp (hg : o.guard = none) (x y v : Operand) (t : TypeId) (hop : o.op = Op.mapUpdate t x y v) (k e : TypeId) (K : Keyed P k) (ht : P.underlying t = some (.map k e)) (m : Nat) (f : Lit → Option Value)
    (hm : a.eval x = .map (some m)) (h : Mp P k w m f) (L : List Lit) (hL : ∀ kl, (f kl).isSome = true → kl ∈ L) (hn : L.length < maxLen) (key val : Value) (kl : Lit) (hy : a.eval y = key) (hv : a.eval v = val) (hkey : keyOf P k key = some kl)
    (hK : ∀ w', Mp P k w' m (upd f kl val) → w.mapTurned w' m → wpList P ops Q rest (a.put o.dst undef) w') : wpList P ops Q (o :: rest) a w := by
  refine wpList_plain hg fun K' hK' => ?_
  obtain ⟨w', hrun, r1, r2⟩ := h.store K ht L hL hn (v := val) hkey
  unfold Oper.wp
  simp [execOp, hop, hm, hy, hv, hrun, Result.andThen]
  exact hK' _ _ (hK w' r1 r2)
/-- m[key] = v as a step of a region that draws its order. -/
theorem step_mapUpdate_mp {K' : Act → World → Prop} {E : Prop} (hg : o.guard = none) (x y v : Operand) (t : TypeId) (hop : o.op = Op.mapUpdate t x y v) (k e : TypeId) (K : Keyed P k) (ht : P.underlying t = some (.map k e)) (m : Nat) (f : Lit → Option Value)
    (hm : a.eval x = .map (some m)) (h : Mp P k w m f) (L : List Lit) (hL : ∀ kl, (f kl).isSome = true → kl ∈ L) (hn : L.length < maxLen) (key val : Value) (kl : Lit) (hy : a.eval y = key) (hv : a.eval v = val) (hkey : keyOf P k key = some kl)
    (hK : ∀ w', Mp P k w' m (upd f kl val) → w.mapTurned w' m → K' (a.put o.dst undef) w') : if Region.wanted o (yielded ops a.tmps) = true then Oper.wp P o a w K' Q else E := by
  have hw : Region.wanted o (yielded ops a.tmps) = true := by simp [Region.wanted, hg]
  rw [if_pos hw]
  obtain ⟨w', hrun, r1, r2⟩ := h.store K ht L hL hn (v := val) hkey
  unfold Oper.wp
  simp [execOp, hop, hm, hy, hv, hrun, Result.andThen]
  exact hK w' r1 r2
theorem wpList_clear_mp (hg : o.guard = none) (x : Operand) (t : TypeId) (hop : o.op = Op.call { callee := Callee.builtin Builtin.clear, args := #[x], argTypes := #[t] }) (k e : TypeId) (ht : P.underlying t = some (.map k e)) (m : Nat) (f : Lit → Option Value)
    (hm : a.eval x = .map (some m)) (h : Mp P k w m f) (hK : ∀ w', Mp P k w' m (fun _ => none) → w.mapTurned w' m → wpList P ops Q rest (a.put o.dst (.tuple #[])) w') : wpList P ops Q (o :: rest) a w := by
  refine wpList_plain hg fun K' hK' => ?_
  obtain ⟨w', hrun, r1, r2⟩ := h.clear ht o.type
  unfold Oper.wp
  simp [execOp, hop, resolve, invoke, builtin, hm, hrun, Result.andThen]
  exact hK' _ _ (hK w' r1 r2)
theorem wpList_range_mp (hg : o.guard = none) (x : Operand) (t : TypeId) (hop : o.op = Op.range t x) (k e : TypeId) (K : Keyed P k) (ht : P.underlying t = some (.map k e)) (m : Nat) (f : Lit → Option Value)
    (hm : a.eval x = .map (some m)) (h : Mp P k w m f) (hK : ∀ w' cnt, Rg P k w' m w.heap.size f (fun kl => (f kl).isSome) cnt → Grows w w' → w'.heap.size = w.heap.size + 1 → wpList P ops Q rest (a.put o.dst (.pointer (some ⟨w.heap.size, 0, none⟩))) w') :
    wpList P ops Q (o :: rest) a w := by
  obtain ⟨D, h1, h2⟩ := h
  refine wpList_range_own w hg x t hop k e K ht rawE m _ D hm h1 fun w' r1 r2 r3 => hK w' (Maps.size D) ⟨D, ?_, h2⟩ ((Grows.refl w).grown r2 (fun _ h => by cases h)) r3
  rwa [show Maps.has D = fun kl => (f kl).isSome from funext fun kl => (h2 kl).1] at r1
theorem wpList_next_mp {α : Type} (hg : o.guard = none) (it : Operand) (hop : o.op = Op.next it false) (k : TypeId) (K : Keyed P k) (mkK : α → Value) (invK : ∀ key kl, keyOf P k key = some kl → ∃ x, key = mkK x) (m r : Nat) (f : Lit → Option Value) (left : Lit → Bool) (cnt : Nat)
    (hit : a.eval it = .pointer (some ⟨r, 0, none⟩)) (h : Rg P k w m r f left cnt)
    (hDone : (∀ kl, left kl = false) → wpList P ops Q rest (a.put o.dst (.tuple #[.bool false])) w)
    (hMore : ∀ (x : α) (v : Value) (kl : Lit) (w' : World) (cnt' : Nat), keyOf P k (mkK x) = some kl → left kl = true → f kl = some v → Rg P k w' m r f (fun z => left z && !z.sameKey kl) cnt' → cnt' < cnt →
      w.grownBy w' (some r) → w'.heap.size = w.heap.size → (Instr.entry (.pointer (some ⟨r, 0, none⟩))).run P w' = .ok (.tuple #[mkK x, v]) w' → wpList P ops Q rest (a.put o.dst (.tuple #[.bool true, mkK x, v])) w') :
    wpList P ops Q (o :: rest) a w := by
  obtain ⟨D, h1, h2⟩ := h
  refine wpList_next_ranges w hg it hop k K rawE mkK (fun v : Value => v) invK (fun v _ _ => ⟨v, rfl⟩) m r _ D left cnt hit h1 (fun _ hl => hDone hl) fun x c kl y w' cnt' hkey hlk hv hat hrg hlt hgr hsz hen => ?_
  refine hMore x c kl w' cnt' hkey hlk ?_ ⟨D, hrg, h2⟩ hlt hgr hsz hen
  have e1 : y.1 = .held c := by
    have := congrArg (fun o => o.map Prod.fst) hv
    simpa [rawE] using this.symm
  have hh := has_true_of_atKey hat
  rw [(h2 kl).1] at hh
  obtain ⟨u, hu⟩ := Option.isSome_iff_exists.1 hh
  have e2 := (h2 kl).2 u hu (.held c)
  rw [hat, e1] at e2
  injection e2 with e2
  rw [hu, e2]
theorem wpList_next_mp2 {α : Type} (hg : o.guard = none) (it : Operand) (hop : o.op = Op.next it false) (k : TypeId) (K : Keyed P k) (mkK mkV : α → Value) (lit : α → Lit) (G : α → Prop) (m r : Nat) (f : Lit → Option Value) (left : Lit → Bool) (cnt : Nat)
    (shape : ∀ key kl v, keyOf P k key = some kl → f kl = some v → ∃ x, key = mkK x ∧ v = mkV x ∧ kl = lit x ∧ G x)
    (hit : a.eval it = .pointer (some ⟨r, 0, none⟩)) (h : Rg P k w m r f left cnt)
    (hDone : (∀ kl, left kl = false) → wpList P ops Q rest (a.put o.dst (.tuple #[.bool false])) w)
    (hMore : ∀ (x : α) (w' : World) (cnt' : Nat), G x → left (lit x) = true → Rg P k w' m r f (fun z => left z && !z.sameKey (lit x)) cnt' → cnt' < cnt →
      w.grownBy w' (some r) → w'.heap.size = w.heap.size → (Instr.entry (.pointer (some ⟨r, 0, none⟩))).run P w' = .ok (.tuple #[mkK x, mkV x]) w' → wpList P ops Q rest (a.put o.dst (.tuple #[.bool true, mkK x, mkV x])) w') :
    wpList P ops Q (o :: rest) a w :=
  wpList_next_mp w hg it hop k K (fun v : Value => v) (fun key _ _ => ⟨key, rfl⟩) m r f left cnt hit h hDone fun key v kl w' cnt' hkey hlk hf hrg hlt hgr hsz hen => by
    obtain ⟨x, rfl, rfl, rfl, hG⟩ := shape key kl v hkey hf
    exact hMore x w' cnt' hG hlk hrg hlt hgr hsz hen
end
end Go.Proofs.Ytpllcjggjjapoaa
