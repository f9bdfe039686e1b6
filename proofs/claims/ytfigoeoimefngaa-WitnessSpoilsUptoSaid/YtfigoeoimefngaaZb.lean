import Derived.Test.YtfigoeoimefngaaOrA
import Derived.Test.YtfigoeoimefngaaZa
import Derived.Test.YtfigoeoimefngaaOrB
import Derived.Shelf.SlSortCmp.WholeK
import Derived.BigQuiet
import Derived.Shelf.SlSortCmp.NoneTotal
import Derived.Deep.QuietTactic
import Derived.Laws.FloatArith
/-
  order.each: the iterator.
-/
namespace Go.Proofs.Ytfigoeoimefngaa
open Go.RowKit Go.Maps Go.Shelf
attribute [local go_sem] Oper.semAt_some

def numOf : Value → Int
  | .int _ n => n
  | _ => 0
/-- The cells of step k. -/
theorem cells14 {w : World} {a : Option Addr} {l : List Sn} (h : Rd w a (rowsOf Sn.cs l)) {k : Nat} (hk : k < l.length) :
    ∃ (g off : Nat), a = some ⟨g, off, none⟩ ∧ g < w.heap.size ∧ ∀ j v, (l[k].cs)[j]? = some v → w.cell? ⟨g, off + k * 14 + j, none⟩ = some v :=
  rows_cell Sn.cs_len (by omega) h hk
theorem cells14_at {w : World} {g off k : Nat} {x : Sn} (h : ∀ j v, (x.cs)[j]? = some v → w.cell? ⟨g, off + k * 14 + j, none⟩ = some v) :
    w.cell? ⟨g, off + k * 14, none⟩ = some (.int .i8 x.k) ∧ w.cell? ⟨g, off + k * 14 + 1, none⟩ = some (.int .i64 x.n.s) ∧ w.cell? ⟨g, off + k * 14 + 2, none⟩ = some (.int .i64 x.n.i) ∧ w.cell? ⟨g, off + k * 14 + 3, none⟩ = some (.int .i64 x.n.t) ∧ w.cell? ⟨g, off + k * 14 + 4, none⟩ = some (.int .i64 x.b) ∧
    w.cell? ⟨g, off + k * 14 + 5, none⟩ = some (.int .u8 x.x0) ∧ w.cell? ⟨g, off + k * 14 + 6, none⟩ = some (.int .u8 x.x1) ∧ w.cell? ⟨g, off + k * 14 + 7, none⟩ = some (.int .u8 x.x2) ∧ w.cell? ⟨g, off + k * 14 + 8, none⟩ = some (.int .u8 x.x3) ∧ w.cell? ⟨g, off + k * 14 + 9, none⟩ = some (.int .u8 x.x4) ∧
    w.cell? ⟨g, off + k * 14 + 10, none⟩ = some (.int .u8 x.x5) ∧ w.cell? ⟨g, off + k * 14 + 11, none⟩ = some (.int .u8 x.x6) ∧ w.cell? ⟨g, off + k * 14 + 12, none⟩ = some (.int .u8 x.x7) ∧ w.cell? ⟨g, off + k * 14 + 13, none⟩ = some (.int .i64 x.e) :=
  ⟨h 0 _ rfl, h 1 _ rfl, h 2 _ rfl, h 3 _ rfl, h 4 _ rfl, h 5 _ rfl, h 6 _ rfl, h 7 _ rfl, h 8 _ rfl, h 9 _ rfl, h 10 _ rfl, h 11 _ rfl, h 12 _ rfl, h 13 _ rfl⟩

theorem each_any (a : Option Addr) (n cap : Nat) (w : World) : Calls Try.prog 44 #[.slice a n cap] w fun e w' => e = .returned (.func (.func 50) #[] #[.pointer (some ⟨w.heap.size, 0, none⟩)]) ∧ w.alloc (.cells #[.slice a n cap] 22) = w' := by
  go_enter Try.func44, Try.ntmps44
  go_wp2_with fail
  go_ret
  exact ⟨rfl, rfl⟩

set_option maxRecDepth 100000 in
set_option maxHeartbeats 4000000 in
theorem each1_any (lp bl n0 : Nat) (a : Option Addr) (cap : Nat) (L : List Sn) (n : Nat) (hn : L.length = n) (W : World) (hL : n ≤ 1000000) (J : Nat → World → Prop) (S : World → Prop)
    (hbl : W.cell? ⟨bl, 0, none⟩ = some (.slice a n cap)) (h0 : J 0 W) (hJ : ∀ k W W', J k W → Grows W W' → J k W') (hR : ∀ k W, J k W → Rd W a (rowsOf Sn.cs L))
    (hY : ∀ k W x, L[k]? = some x → J k W → YieldAt Fence.wide n0 Try.prog lp #[.int .i64 (k : Int), .agg x.cs.toArray] W fun e W2 => (e = .returned (.bool true) ∧ J (k + 1) W2) ∨ (e = .returned (.bool false) ∧ S W2)) :
    CallsIn Fence.wide (n0 + 1) Try.prog 50 #[.func (.yield lp) #[] #[], .pointer (some ⟨bl, 0, none⟩)] W fun e W' => (∃ v, e = .returned v) ∧ (J n W' ∨ S W') := by
  have H0 := Lib.hid h0
  have HJ := Lib.hid hJ
  have HR := Lib.hid hR
  have HY := Lib.hid hY
  have HN := Lib.hid hn
  clear h0 hJ hR hY hn
  refine callsIn_of_wp Try.func50 rfl trivial ?_ rfl
  simp only [Try.ntmps50, List.size_toArray, List.length_cons, List.length_nil, Nat.reduceAdd, Nat.reduceSub, Array.replicate_succ, Array.replicate_zero, List.push_toArray, List.append_toArray, List.nil_append, List.cons_append]
  gi_wp2
  clear hbl
  gi_loopw [7] (fun v7 wr => ∃ k : Nat, v7 = .int .i64 (k : Int) ∧ k ≤ n ∧ J k wr) (fun v7 _ => n - (numOf v7).toNat)
  case atStart => exact ⟨0, rfl, Nat.zero_le _, H0.out⟩
  case round =>
    obtain ⟨k, rfl, hk, hJk⟩ := hrel
    have HJk := Lib.hid hJk
    clear hJk
    by_cases hlt : k < n
    · have hkl : k < L.length := by rw [HN.out]; exact hlt
      obtain ⟨g, off, rfl, hgw, hc⟩ := cells14 (HR.out k wr HJk.out) hkl
      have HY' := Lib.hid (HY.out k (wr.alloc (.cells L[k].cs.toArray 36)) L[k] (List.getElem?_eq_getElem hkl) (HJ.out _ _ _ HJk.out ((Grows.refl _).alloc _)))
      obtain ⟨c0, c1, c2, c3, c4, c5, c6, c7, c8, c9, c10, c11, c12, c13⟩ := cells14_at hc
      clear hc
      generalize L[k] = x at *
      obtain ⟨fn, tmps, assign, body, hy, hRd⟩ := HY'.out
      have HRd := Lib.hid hRd
      clear hRd HY'
      unfold Sn.cs at hy HRd
      have hlt' : (k : Int) < (n : Int) := by omega
      have hk0 : (0 : Int) ≤ (k : Int) := by omega
      have hwr : IntKind.i64.wrap ((k : Int) + 1) = (k : Int) + 1 := IntWalk.i64_in _ (by omega)
      clear hkl hlt
      gi_wp2_with (refine HRd.out.mono ?_; rintro e W2 (⟨rfl, h2⟩ | ⟨rfl, h2⟩))
      · exact ⟨⟨k + 1, rfl, by omega, h2⟩, by simp only [numOf]; omega⟩
      · refine bodyPost_ret (results_none rfl _ _ _) rfl ?_
        exact ⟨⟨_, rfl⟩, .inr h2⟩
    · have : k = n := by omega
      subst this
      clear hlt hk
      gi_wp2
      go_end0
      exact ⟨⟨_, rfl⟩, .inl HJk.out⟩
end Go.Proofs.Ytfigoeoimefngaa

/-
  What a history told of each name: the state, as a function of the steps so far; the map that holds it.
-/
namespace Go.Proofs.Ytfigoeoimefngaa
open Go.RowKit Go.Maps

def tkA (n : Nm) : Nat → List Sn → Tk → Tk
  | _, [], t => t
  | i, x :: l, t => tkA n (i + 1) l (if x.n = n then nxt i x t else t)
def tk (l : List Sn) (n : Nm) : Tk := tkA n 0 l Tk.zero
theorem tkA_snoc (n : Nm) (x : Sn) : ∀ (l : List Sn) (i : Nat) (t : Tk), tkA n i (l ++ [x]) t = if x.n = n then nxt ((i + l.length : Nat) : Int) x (tkA n i l t) else tkA n i l t
  | [], i, t => by simp [tkA]
  | y :: l, i, t => by
    rw [List.cons_append, tkA, tkA_snoc n x l, tkA, List.length_cons, show i + 1 + l.length = i + (l.length + 1) by omega]
theorem tk_snoc (l : List Sn) (x : Sn) (n : Nm) : tk (l ++ [x]) n = if x.n = n then nxt (l.length : Int) x (tk l n) else tk l n := by
  unfold tk
  rw [tkA_snoc, Nat.zero_add]
def stA (n : Nm) : Nat → List Sn → List (Int × Nat)
  | _, [] => []
  | i, x :: l => (if x.n = n ∧ rwB x = true then [(x.b, i)] else []) ++ stA n (i + 1) l
/-- The reads and writes of a name: block, place. -/
def st (l : List Sn) (n : Nm) : List (Int × Nat) := stA n 0 l
theorem stA_snoc (n : Nm) (x : Sn) : ∀ (l : List Sn) (i : Nat), stA n i (l ++ [x]) = stA n i l ++ if x.n = n ∧ rwB x = true then [(x.b, i + l.length)] else []
  | [], i => by simp [stA]
  | y :: l, i => by
    rw [List.cons_append, stA, stA_snoc n x l, stA, List.length_cons, show i + 1 + l.length = i + (l.length + 1) by omega, List.append_assoc]
theorem st_snoc (l : List Sn) (x : Sn) (n : Nm) : st (l ++ [x]) n = st l n ++ if x.n = n ∧ rwB x = true then [(x.b, l.length)] else [] := by
  unfold st
  rw [stA_snoc, Nat.zero_add]
theorem stA_len (n : Nm) : ∀ (l : List Sn) (i : Nat), (stA n i l).length ≤ l.length
  | [], _ => Nat.le_refl _
  | x :: l, i => by
    rw [stA, List.length_append, List.length_cons]
    have := stA_len n l (i + 1)
    split <;> simp <;> omega
theorem st_len (l : List Sn) (n : Nm) : (st l n).length ≤ l.length := stA_len n l 0
def stc (p : List (Int × Nat)) : List Value := p.map fun q => cx q.1 (q.2 : Int)
theorem stc_len (p : List (Int × Nat)) : (stc p).length = p.length := by simp [stc]
theorem tkA_none (n : Nm) : ∀ (l : List Sn) (i : Nat) (t : Tk), n ∉ l.map Sn.n → tkA n i l t = t
  | [], _, _, _ => rfl
  | x :: l, i, t, h => by
    simp only [List.map_cons, List.mem_cons, not_or] at h
    rw [tkA, if_neg (Ne.symm h.1), tkA_none n l _ _ h.2]
theorem tk_none {l : List Sn} {n : Nm} (h : n ∉ l.map Sn.n) : tk l n = Tk.zero := tkA_none n l 0 _ h
theorem stA_none (n : Nm) : ∀ (l : List Sn) (i : Nat), n ∉ l.map Sn.n → stA n i l = []
  | [], _, _ => rfl
  | x :: l, i, h => by
    simp only [List.map_cons, List.mem_cons, not_or] at h
    rw [stA, if_neg (fun e => h.1 e.1.symm), stA_none n l _ h.2]
    rfl
/-- Step i may stand there. -/
def okAt (l : List Sn) (i : Nat) : Bool :=
  match l[i]? with
  | none => true
  | some x => namedB x.n && okS x (tk (l.take i) x.n)
def mayB (l : List Sn) : Bool := (List.range l.length).all (okAt l)

/-- A map of names: those of N, each with f's value. -/
def fT (N : List Nm) (f : Nm → Value) : Lit → Option Value := fun kl => (N.find? fun n => kl.sameKey n.lit).map f
theorem fT_at {N : List Nm} (hN : ∀ n ∈ N, n.ok) (f : Nm → Value) {n : Nm} (hn : n.ok) : fT N f n.lit = if n ∈ N then some (f n) else none := by
  induction N with
  | nil => rfl
  | cons y N ih =>
    unfold fT
    rw [List.find?_cons]
    by_cases h : y = n
    · subst h
      rw [lit_same hn]
      simp
    · rw [lit_other hn (hN y (by simp)) (Ne.symm h)]
      have := ih (fun z hz => hN z (by simp [hz]))
      unfold fT at this
      simp only [this, List.mem_cons, Ne.symm h, false_or]
theorem fT_upd {N : List Nm} (f : Nm → Value) {n : Nm} (v : Value) (f' : Nm → Value) (h1 : f' n = v) (h2 : ∀ y, y ≠ n → f' y = f y) : upd (fT N f) n.lit v = fT (n :: N) f' := by
  funext kl
  unfold upd fT
  rw [List.find?_cons]
  by_cases h : kl.sameKey n.lit = true
  · rw [if_pos h, h]; simp [h1]
  · rw [if_neg h]
    simp only [Bool.not_eq_true] at h
    rw [h]
    cases hf : N.find? fun n => kl.sameKey n.lit with
    | none => rfl
    | some y =>
      have hy := List.find?_some hf
      have hne : y ≠ n := fun e => by subst e; rw [h] at hy; cases hy
      simp [h2 y hne]
theorem fT_mem {N : List Nm} {f : Nm → Value} (kl : Lit) (h : (fT N f kl).isSome = true) : kl ∈ N.map Nm.lit := by
  unfold fT at h
  rw [Option.isSome_map] at h
  obtain ⟨p, hp⟩ := Option.isSome_iff_exists.1 h
  have hs := List.find?_some hp
  exact List.mem_map.2 ⟨p, List.mem_of_find?_eq_some hp, (WideAt.sameKey_eq hs).symm⟩

/-- The map of what a history told. -/
structure Tr (w : World) (B m : Nat) (l : List Sn) (V : Nm → Value) : Prop where
  map : Mp Try.prog 29 w m (fT (l.map Sn.n).reverse fun n => .agg ((tk l n).cs (V n)))
  ok : ∀ x ∈ l, x.n.ok
  row : ∀ n, w.ownsRow B 97 1 (V n) (st l n).length (stc (st l n))
  nil : ∀ n, n ∉ l.map Sn.n → V n = .slice none 0 0
  apart : ∀ n n' b, n ≠ n' → (V n).ownBlock = some b → (V n').ownBlock ≠ some b
section
variable {w w' : World} {B m : Nat} {l : List Sn} {V : Nm → Value}
theorem Tr.grows (h : Tr w B m l V) (hg : Grows w w') : Tr w' B m l V := ⟨h.map.grows hg, h.ok, fun n => own_grows (h.row n) hg, h.nil, h.apart⟩
/-- The map's block and the rows lie as they lay. -/
theorem Tr.same (h : Tr w B m l V) (hm : w'.heap[m]? = w.heap[m]?) (hr : ∀ n b, (V n).ownBlock = some b → w'.heap[b]? = w.heap[b]?) : Tr w' B m l V :=
  ⟨h.map.same hm, h.ok, fun n => own_keep (h.row n) (hr n), h.nil, h.apart⟩
theorem Tr.names (h : Tr w B m l V) : ∀ n ∈ (l.map Sn.n).reverse, n.ok := fun n hn => by
  obtain ⟨x, hx, rfl⟩ := List.mem_map.1 (List.mem_reverse.1 hn)
  exact h.ok x hx
theorem zeroTrack (W : World) : (zeroValue 90).run Try.prog W = .ok (.agg (Tk.zero.cs (.slice none 0 0))) W := by kernel_rfl
/-- m[n]. -/
theorem Tr.look (h : Tr w B m l V) {n : Nm} (hn : n.ok) : (Instr.lookup 80 (.map (some m)) n.v false).run Try.prog w = .ok (.agg ((tk l n).cs (V n))) w := by
  rw [h.map.look nameLaw Try.underlying80 (zeroTrack w) (name_key n hn), fT_at h.names _ hn]
  by_cases hm : n ∈ (l.map Sn.n).reverse
  · rw [if_pos hm]; rfl
  · rw [if_neg hm]
    have hm' : n ∉ l.map Sn.n := fun e => hm (List.mem_reverse.2 e)
    rw [tk_none hm', h.nil n hm']
    rfl
theorem Tr.made (w : World) (B : Nat) : Tr (w.alloc (.map #[] 0)) B w.heap.size [] (fun _ => .slice none 0 0) :=
  ⟨Mp.made w Try.prog _, (fun x hx => by cases hx), (fun n => World.ownsRow_nil _ B _ _), (fun _ _ => rfl), (fun _ _ _ _ h => by cases h)⟩
/-- The map with one step more. -/
theorem Tr.next {w1 w2 : World} {x : Sn} {g : Nat} {v' : Value} (h : Tr w B m l V) (hx : x.n.ok) (hrow : w1.ownsRow B 97 1 v' (stc (st (l ++ [x]) x.n)).length (stc (st (l ++ [x]) x.n)))
    (hb : v'.ownBlock = (V x.n).ownBlock ∨ ∃ j, v'.ownBlock = some j ∧ w.heap.size ≤ j) (hT : Turns (fun i => i = g ∨ (V x.n).ownBlock = some i) w w1 (fun i => i = g ∨ v'.ownBlock = some i)) (hg : ∃ cs, At w g 90 cs)
    (hm : Mp Try.prog 29 w2 m (upd (fT (l.map Sn.n).reverse fun n => .agg ((tk l n).cs (V n))) x.n.lit (.agg ((nxt l.length x (tk l x.n)).cs v')))) (ht : w1.mapTurned w2 m) :
    Tr w2 B m (l ++ [x]) (fun n => if n = x.n then v' else V n) := by
  have g2 := ht.grown
  obtain ⟨cs, hg⟩ := hg
  obtain ⟨es, cl, hmb⟩ := h.map.block
  have hm1 : ∃ es cl, w1.heap[m]? = some (.map es cl) := by
    obtain ⟨es, cl, _, _, hh, _⟩ := ht
    exact ⟨es, cl, hh⟩
  -- a row's block is not the map's
  have hne1 : ∀ (v : Value) n xs, w1.ownsRow B 97 1 v n xs → ∀ b, v.ownBlock = some b → b ≠ m := by
    rintro v n xs hv b hb rfl
    obtain ⟨cur, hcur, _⟩ := own_typed hv hb
    obtain ⟨es, cl, hh⟩ := hm1
    rw [hcur] at hh
    cases hh
  have rowOld : ∀ n, n ≠ x.n → w1.ownsRow B 97 1 (V n) (st l n).length (stc (st l n)) := fun n hn =>
    own_keep (h.row n) (fun b hb => by
      obtain ⟨cur, hcur, _, hlt⟩ := own_typed (h.row n) hb
      refine hT.block b hlt ?_
      rintro (e | e)
      · subst e; exact own_apart (h.row n) hg (by decide) hb
      · exact h.apart n x.n b hn hb e)
  refine ⟨?_, ?_, ?_, ?_, ?_⟩
  · rw [fT_upd _ _ (fun n => .agg ((tk (l ++ [x]) n).cs (if n = x.n then v' else V n))) (by rw [if_pos rfl, tk_snoc, if_pos rfl]) (fun y hy => by rw [if_neg hy, tk_snoc, if_neg (Ne.symm hy)])] at hm
    rw [List.map_append, List.reverse_append]
    exact hm
  · intro y hy
    rcases List.mem_append.1 hy with hy | hy
    · exact h.ok y hy
    · rw [List.mem_singleton.1 hy]; exact hx
  · intro n
    by_cases hn : n = x.n
    · subst hn
      simp only [if_true]
      rw [stc_len] at hrow
      exact own_keep hrow (fun b hb => g2.block b (own_typed hrow hb).choose_spec.2.2 (fun e => hne1 _ _ _ hrow b hb (by injection e)))
    · simp only [if_neg hn]
      rw [st_snoc, if_neg (fun e => hn e.1.symm), List.append_nil]
      exact own_keep (rowOld n hn) (fun b hb => g2.block b (own_typed (rowOld n hn) hb).choose_spec.2.2 (fun e => hne1 _ _ _ (rowOld n hn) b hb (by injection e)))
  · intro n hn
    simp only [List.map_append, List.map_cons, List.map_nil, List.mem_append, List.mem_singleton, not_or] at hn
    simp only [if_neg hn.2]
    exact h.nil n hn.1
  · have aux : ∀ n b, n ≠ x.n → (V n).ownBlock = some b → v'.ownBlock ≠ some b := fun n b hn h1 h2 => by
      rcases hb with e | ⟨j, e, hj⟩
      · rw [e] at h2; exact h.apart n x.n b hn h1 h2
      · rw [e] at h2
        injection h2 with h2
        obtain ⟨_, _, _, hlt⟩ := own_typed (h.row n) h1
        omega
    intro n n' b hne h1 h2
    by_cases e : n = x.n
    · have e' : n' ≠ x.n := fun e' => hne (e.trans e'.symm)
      simp only [if_pos e] at h1
      simp only [if_neg e'] at h2
      exact aux n' b e' h2 h1
    · simp only [if_neg e] at h1
      by_cases e' : n' = x.n
      · simp only [if_pos e'] at h2
        exact aux n b e h1 h2
      · simp only [if_neg e'] at h2
        exact h.apart n n' b hne h1 h2
end
end Go.Proofs.Ytfigoeoimefngaa

/-
  order.tracks.
-/
namespace Go.Proofs.Ytfigoeoimefngaa
open Go.RowKit Go.Maps Go.Shelf
attribute [local go_sem] Oper.semAt_some

theorem At.putObj {w : World} {g : Nat} {t : TypeId} {cs : Array Value} (h : At w g t cs) {r : Nat} (hr : g ≠ r) (o : Obj) : At (w.putObj r o) g t cs := (World.putObj_heap_other hr).trans h
theorem put_size (w : World) (r : Nat) (o : Obj) : (w.putObj r o).heap.size = w.heap.size := by simp [World.putObj]
theorem results_cells2 {P : Program} {fn : Func} {p q : Tmp} {tp tq : TypeId} (h : fn.results = #[.cell p tp, .cell q tq]) (tmps : Array Value) (w : World) (g g' : Nat) (v v' : Value)
    (hp : tmps.getD p undef = .pointer (some ⟨g, 0, none⟩)) (hq : tmps.getD q undef = .pointer (some ⟨g', 0, none⟩)) (h1 : (loadVar tp ⟨g, 0, none⟩).run P w = .ok v w) (h2 : (loadVar tq ⟨g', 0, none⟩).run P w = .ok v' w) :
    (results fn tmps).run P w = .ok (.tuple #[v, v']) w := by
  have hp' : tmps[p]?.getD undef = .pointer (some ⟨g, 0, none⟩) := by simpa using hp
  have hq' : tmps[q]?.getD undef = .pointer (some ⟨g', 0, none⟩) := by simpa using hq
  simp [results, h, hp', hq', asAddr, h1, h2]

/-- Blocks that are neither the map nor rows may turn. -/
theorem Tr.far {W W' : World} {O O' : Nat → Prop} {B m : Nat} {l : List Sn} {V : Nm → Value} (h : Tr W B m l V) (hT : Turns O W W' O') (hm : ¬ O m) (hO : ∀ i, O i → ∀ cur, W.heap[i]? ≠ some (.cells cur 97 (0, 0))) : Tr W' B m l V :=
  h.same (hT.block m h.map.lt hm) (fun n b hb => by
    obtain ⟨cur, h1, _, h2⟩ := own_typed (h.row n) hb
    exact hT.block b h2 (fun e => hO b e cur h1))
theorem At.noCx {W : World} {g : Nat} {t : TypeId} {cs : Array Value} (h : At W g t cs) (ht : t ≠ 97) (cur : Array Value) : W.heap[g]? ≠ some (.cells cur 97 (0, 0)) := fun e => by
  unfold At at h
  rw [h] at e
  injection e with e
  injection e with _ e
  exact ht e
theorem ld_map {w : World} {g : Nat} {v : Value} (h : At w g 80 #[v]) : (loadVar 80 ⟨g, 0, none⟩).run Try.prog w = .ok v w := by
  have hc : w.cell? ⟨g, 0, none⟩ = some v := h.cell 0
  simp [loadVar, isAgg, run_underlying Try.underlying80, go_sem, hc]
theorem ld_bool {w : World} {g : Nat} {v : Value} (h : At w g 4 #[v]) : (loadVar 4 ⟨g, 0, none⟩).run Try.prog w = .ok v w := by
  have hc : w.cell? ⟨g, 0, none⟩ = some v := h.cell 0
  simp [loadVar, isAgg, run_underlying Try.underlying4, go_sem, hc]
theorem mkMap (W : World) : (Instr.makeMap 80 none).run Try.prog W = .ok (.map (some W.heap.size)) (W.alloc (.map #[] 0)) := by kernel_rfl
set_option maxRecDepth 100000 in
set_option maxHeartbeats 4000000 in
theorem tracks_any (L : List Sn) (n : Nat) (hn : L.length = n) (hL : n ≤ 1000000) (hok : ∀ x ∈ L, x.n.ok) (a : Option Addr) (cap : Nat) (w : World) (hr : Rd w a (rowsOf Sn.cs L)) :
    Calls Try.prog 41 #[.slice a n cap] w fun e w' => Grows w w' ∧ ((mayB L = false ∧ e = .returned (.tuple #[.map none, .bool false])) ∨
      (mayB L = true ∧ ∃ m V, e = .returned (.tuple #[.map (some m), .bool true]) ∧ Tr w' w.heap.size m L V)) := by
  have HR := Lib.hid hr
  have HN := Lib.hid hn
  have HOK := Lib.hid hok
  clear hr hn hok
  have hmk := mkMap
  refine (callsIn_wide (n := 5)).1 ?_
  refine callsIn_of_wp_marks Try.func41 rfl trivial ?_ rfl
  simp only [Try.ntmps41, List.size_toArray, List.length_cons, List.length_nil, Nat.reduceAdd, Nat.reduceSub, Array.replicate_succ, Array.replicate_zero, List.push_toArray, List.append_toArray, List.nil_append, List.cons_append]
  gi_wp2_with (refine ⟨trivial, ?_⟩; gi_at_call 44; refine (callsIn_wide.2 (each_any _ _ _ _)).mono ?_; rintro e w' ⟨rfl, rfl⟩)
  clear hmk
  obtain ⟨w3, hw3⟩ : ∃ w3, w3 = ((((w.alloc (.cells #[.map none] 80)).alloc (.cells #[.bool false] 4)).alloc (.map #[] 0)).alloc (.cells #[.map (some (w.heap.size + 1 + 1))] 80)).alloc (.cells #[.slice a n cap] 22) := ⟨_, rfl⟩
  have HG3 : Hid (Grows w w3) := by show Grows w w3; rw [hw3]; exact (((((Grows.refl _).alloc _).alloc _).alloc _).alloc _).alloc _
  have hs3 : w3.heap.size = w.heap.size + 5 := by rw [hw3]; simp
  have HA0 : Hid (At w3 w.heap.size 80 #[.map none]) := by show At _ _ _ _; rw [hw3]; exact ((((At.new w _ _).alloc _).alloc _).alloc _).alloc _
  have HA1 : Hid (At w3 (w.heap.size + 1) 4 #[.bool false]) := by
    show At _ _ _ _
    have := ((((At.new (w.alloc (.cells #[.map none] 80)) 4 #[.bool false]).alloc (.map #[] 0)).alloc (.cells #[.map (some (w.heap.size + 1 + 1))] 80)).alloc (.cells #[.slice a n cap] 22))
    rw [World.size_alloc] at this
    rw [hw3]; exact this
  have HT3 : Hid (Tr w3 w.heap.size (w.heap.size + 1 + 1) [] (fun _ => .slice none 0 0)) := by
    show Tr _ _ _ _ _
    have := ((Tr.made ((w.alloc (.cells #[.map none] 80)).alloc (.cells #[.bool false] 4)) w.heap.size).grows (((Grows.refl _).alloc (.cells #[.map (some (w.heap.size + 1 + 1))] 80)).alloc (.cells #[.slice a n cap] 22)))
    rw [World.size_alloc, World.size_alloc] at this
    rw [hw3]; exact this
  have HA3 : Hid (At w3 (w.heap.size + 1 + 1 + 1) 80 #[.map (some (w.heap.size + 1 + 1))]) := by
    show At _ _ _ _
    have := (At.new (((w.alloc (.cells #[.map none] 80)).alloc (.cells #[.bool false] 4)).alloc (.map #[] 0)) 80 #[.map (some (w.heap.size + 1 + 1))]).alloc (.cells #[.slice a n cap] 22)
    rw [World.size_alloc, World.size_alloc, World.size_alloc] at this
    rw [hw3]; exact this
  have HA4 : Hid (At w3 (w.heap.size + 1 + 1 + 1 + 1) 22 #[.slice a n cap]) := by
    show At _ _ _ _
    have := At.new ((((w.alloc (.cells #[.map none] 80)).alloc (.cells #[.bool false] 4)).alloc (.map #[] 0)).alloc (.cells #[.map (some (w.heap.size + 1 + 1))] 80)) 22 #[.slice a n cap]
    rw [World.size_alloc, World.size_alloc, World.size_alloc, World.size_alloc] at this
    rw [hw3]; exact this
  rw [← hw3]
  clear hw3
  refine wpIn_rfr (gf := 50) (lb := #[.pointer (some ⟨w.heap.size + 1 + 1 + 1 + 1, 0, none⟩)]) rfl (enters_of Try.func50 (by kernel_rfl) rfl) ?_
  intro fn
  generalize hrc : rcd fn (Act.tmps _) _ _ _ _ = rc
  generalize hrr : rcr fn (Act.tmps _) _ _ _ _ = rr
  obtain ⟨D, hD⟩ : ∃ D, w3.heap.size = D := ⟨_, rfl⟩
  obtain ⟨lp, hlp⟩ : ∃ lp, w3.heap.size + 1 = lp := ⟨_, rfl⟩
  obtain ⟨r0, hr0⟩ : ∃ r, w.heap.size = r := ⟨_, rfl⟩
  have HNUM : Hid (D = r0 + 5 ∧ lp = r0 + 6) := by show _ ∧ _; omega
  have HGW : Hid (Grows w3 ((w3.alloc (.deferred (some []))).alloc (.loop (rc .ready)))) := ((Grows.refl _).alloc _).alloc _
  have HL1 : Hid (((w3.alloc (.deferred (some []))).alloc (.loop (rc .ready))).heap[lp]? = some (.loop (rc .ready))) := by
    show _ = _
    have := World.alloc_heap_new (w3.alloc (.deferred (some []))) (.loop (rc .ready))
    rw [World.size_alloc, hlp] at this
    exact this
  have HD1 : Hid (((w3.alloc (.deferred (some []))).alloc (.loop (rc .ready))).heap[D]? = some (.deferred (some []))) := by
    show _ = _
    rw [← hD]
    exact (RowKit.Below.heap_alloc _ _ _ (by simp)).trans (World.alloc_heap_new w3 _)
  rw [hlp, hD, hr0]
  rw [hr0] at HA0 HA1 HT3 HA3 HA4
  clear hs3
  generalize (w3.alloc (.deferred (some []))).alloc (.loop (rc .ready)) = W1 at *
  have HG1 := Lib.hid (HG3.out.trans HGW.out)
  refine (each1_any lp (r0 + 1 + 1 + 1 + 1) 3 a cap L n HN.out W1 hL
    (fun k W => ∃ V, Tr W r0 (r0 + 1 + 1) (L.take k) V ∧ Grows w W ∧ At W r0 80 #[.map none] ∧ At W (r0 + 1) 4 #[.bool false] ∧ At W (r0 + 1 + 1 + 1) 80 #[.map (some (r0 + 1 + 1))] ∧ W.heap[D]? = some (.deferred (some [])) ∧ W.heap[lp]? = some (.loop (rc .ready)) ∧ ∀ i, i < k → okAt L i = true)
    (fun W => Grows w W ∧ At W r0 80 #[.map none] ∧ At W (r0 + 1) 4 #[.bool false] ∧ W.heap[D]? = some (.deferred (some [])) ∧ W.heap[lp]? = some (.loop (rr .done)) ∧ mayB L = false)
    ((HA4.out.grows HGW.out).cell 0) ⟨_, HT3.out.grows HGW.out, HG1.out, HA0.out.grows HGW.out, HA1.out.grows HGW.out, HA3.out.grows HGW.out, HD1.out, HL1.out, fun i hi => by omega⟩ ?_ ?_ ?_).mono ?_
  · rintro k W W' ⟨V, h1, h2, h3, h4, h5, h6, h7, h8⟩ hg
    exact ⟨V, h1.grows hg, h2.trans hg, h3.grows hg, h4.grows hg, h5.grows hg, (hg.block _ (Array.getElem?_eq_some_iff.1 h6).1).trans h6, (hg.block _ (Array.getElem?_eq_some_iff.1 h7).1).trans h7, h8⟩
  · rintro k W ⟨V, h1, h2, _⟩
    exact HR.out.grows h2
  · rintro k W' x hx ⟨V, hT, hG, hA0, hA1, hA3, hD', hl', hall⟩
    have hn9 := HNUM.out
    have hlen : k < L.length := by
      rcases Nat.lt_or_ge k L.length with h | h
      · exact h
      · rw [List.getElem?_eq_none h] at hx; cases hx
    have hxo : x.n.ok := HOK.out x (List.mem_of_getElem? hx)
    have htk : (L.take k).length = k := by rw [List.length_take]; omega
    have htk1 : L.take (k + 1) = L.take k ++ [x] := by rw [List.take_add_one, hx]; rfl
    have hokk : okAt L k = (namedB x.n && okS x (tk (L.take k) x.n)) := by unfold okAt; rw [hx]
    -- the world of the body
    obtain ⟨W5, hW5⟩ : ∃ W5, W5 = (W'.alloc (.cells x.cs.toArray 36)).putObj lp (.loop (rc .busy)) := ⟨_, rfl⟩
    have hTu5 : Turns (fun i => i = lp) W' W5 (fun _ => False) := by
      rw [hW5]
      exact ((((Turns.refl (fun i => i = lp) W').alloc _).put (.inl rfl) _).wide (fun _ h => h) (fun _ h => h.elim))
    have HG5 := Lib.hid (hTu5.low hG (fun i hi => by omega))
    have HT5 := Lib.hid (hT.far hTu5 (by omega) (fun i hi cur e => by subst hi; rw [hl'] at e; cases e))
    have HA05 := Lib.hid (hTu5.at hA0 (by omega))
    have HA15 := Lib.hid (hTu5.at hA1 (by omega))
    have HA35 := Lib.hid (hTu5.at hA3 (by omega))
    have HD5 : Hid (W5.heap[D]? = some (.deferred (some []))) := (hTu5.block D (Array.getElem?_eq_some_iff.1 hD').1 (by omega)).trans hD'
    have HL5 : Hid (W5.heap[lp]? = some (.loop (rc .busy))) := by show _ = _; rw [hW5]; exact World.putObj_heap_same (by have := (Array.getElem?_eq_some_iff.1 hl').1; simp; omega)
    have hlW : lp < W'.heap.size := (Array.getElem?_eq_some_iff.1 hl').1
    have HX5 : Hid (At W5 W'.heap.size 36 x.cs.toArray) := by show At _ _ _ _; rw [hW5]; exact (At.new W' _ _).putObj (by omega) _
    have hs5 : W5.heap.size = W'.heap.size + 1 := by rw [hW5, put_size, World.size_alloc]
    have HL' : Hid ((W'.alloc (.cells x.cs.toArray 36)).heap[lp]? = some (.loop (rc .ready))) := (RowKit.Below.heap_alloc _ _ _ hlW).trans hl'
    refine yield_roundr hrc hrr hl' _ rfl _ ?_
    clear hrc hrr hTu5 hT hG hA0 hA1 hA3 hD' hl'
    obtain ⟨av, cv, hv, _⟩ := own_slice (HT5.out.row x.n)
    obtain ⟨t, ht⟩ : ∃ t, t = tk (L.take k) x.n := ⟨_, rfl⟩
    have hlk := HT5.out.look hxo
    rw [← ht, hv] at hlk
    have HRW := HT5.out.row x.n
    rw [hv] at HRW
    have HTT := Lib.hid ht
    have HVV := Lib.hid hv
    have HOKK := Lib.hid hokk
    rw [← ht] at HOKK
    have HALL := Lib.hid hall
    have HTK1 := Lib.hid htk1
    have HTK := Lib.hid htk
    have HROW := Lib.hid HRW
    have HXO := Lib.hid hxo
    have HSZ := Lib.hid hs5
    have HLEN := Lib.hid hlen
    have HSTOP : Hid (∀ Wx, Grows w Wx → At Wx r0 80 #[.map none] → At Wx (r0 + 1) 4 #[.bool false] → Wx.heap[D]? = some (.deferred (some [])) → Wx.heap[lp]? = some (.loop (rc .busy)) → okAt L k = false →
        ((Wx.setCell ⟨r0, 0, none⟩ (.map none)).setCell ⟨r0 + 1, 0, none⟩ (.bool false)).heap[lp]? = some (.loop (rc .busy)) ∧
        (Grows w (((Wx.setCell ⟨r0, 0, none⟩ (.map none)).setCell ⟨r0 + 1, 0, none⟩ (.bool false)).putObj lp (.loop (rr .done))) ∧ At (((Wx.setCell ⟨r0, 0, none⟩ (.map none)).setCell ⟨r0 + 1, 0, none⟩ (.bool false)).putObj lp (.loop (rr .done))) r0 80 #[.map none] ∧ At (((Wx.setCell ⟨r0, 0, none⟩ (.map none)).setCell ⟨r0 + 1, 0, none⟩ (.bool false)).putObj lp (.loop (rr .done))) (r0 + 1) 4 #[.bool false] ∧ (((Wx.setCell ⟨r0, 0, none⟩ (.map none)).setCell ⟨r0 + 1, 0, none⟩ (.bool false)).putObj lp (.loop (rr .done))).heap[D]? = some (.deferred (some [])) ∧ (((Wx.setCell ⟨r0, 0, none⟩ (.map none)).setCell ⟨r0 + 1, 0, none⟩ (.bool false)).putObj lp (.loop (rr .done))).heap[lp]? = some (.loop (rr .done)) ∧ mayB L = false)) := fun Wx g1 g2 g3 g4 g5 g6 => by
      have hn := HNUM.out
      have e1 : ((Wx.setCell ⟨r0, 0, none⟩ (.map none)).setCell ⟨r0 + 1, 0, none⟩ (.bool false)).heap[lp]? = some (.loop (rc .busy)) := (RowKit.Below.heap_setCell _ _ _ _ (by simp; omega)).trans ((RowKit.Below.heap_setCell _ _ _ _ (by simp; omega)).trans g5)
      refine ⟨e1, ?_, ?_, ?_, ?_, World.putObj_heap_same (Array.getElem?_eq_some_iff.1 e1).1, ?_⟩
      · exact ((((Turns.refl (fun i => i = r0 ∨ i = r0 + 1 ∨ i = lp) Wx).set (.inl (.inl rfl)) 0 _).set (.inl (.inr (.inl rfl))) 0 _).put (.inl (.inr (.inr rfl))) _).low g1 (fun i hi => by omega)
      · exact At.putObj ((g2.set 0 _).far (by simp) _) (by omega) _
      · exact At.putObj ((g3.far (by simp) _).set 0 _) (by omega) _
      · exact (World.putObj_heap_other (by omega)).trans ((RowKit.Below.heap_setCell _ _ _ _ (by simp; omega)).trans ((RowKit.Below.heap_setCell _ _ _ _ (by simp; omega)).trans g4))
      · unfold mayB
        rw [List.all_eq_false]
        exact ⟨k, List.mem_range.2 HLEN.out, by rw [g6]; simp⟩
    have c3 : W5.cell? ⟨r0 + 1 + 1 + 1, 0, none⟩ = some (.map (some (r0 + 1 + 1))) := HA35.out.cell 0
    have cX := HX5.out.cell
    have HKN : Hid (k ≤ 1000000) := by show _ ≤ _; have := HN.out; omega
    have hlt5 : W'.heap.size < W5.heap.size := by omega
    clear ht hv hokk hall htk1 htk HRW hxo hlen hn9 hs5 hlW hx hL
    unfold Nm.v Tk.cs at hlk
    unfold Sn.cs at HL' cX hW5 ⊢
    have hcX := cX
    clear cX
    gi_wp2
    refine ⟨HL'.out, ?_⟩
    rw [← hW5]
    clear hW5
    have cX := hcX
    clear hcX
    cases hnm : namedB x.n
    · have HNM : Hid (∀ W, Calls Try.prog 45 #[x.n.v] W fun e w' => e = .returned (.bool false) ∧ Grows W w') := fun W => by have := named_any x.n W; rwa [hnm] at this
      unfold Nm.v at HNM
      gi_wp2_with (refine ⟨trivial, ?_⟩; gi_at_call 45; refine (callsIn_wide.2 (HNM.out _)).mono ?_; rintro e w7 ⟨rfl, hg7⟩)
      have hG7 := ((Grows.refl W5).alloc _).trans hg7
      have hA07 := HA05.out.grows hG7
      have hA17 := HA15.out.grows hG7
      have HQ := Lib.hid (HSTOP.out w7 (HG5.out.trans hG7) hA07 hA17 ((hG7.block _ (Array.getElem?_eq_some_iff.1 HD5.out).1).trans HD5.out) ((hG7.block _ (Array.getElem?_eq_some_iff.1 HL5.out).1).trans HL5.out) (by rw [HOKK.out, hnm]; rfl))
      have c07 : w7.cell? ⟨r0, 0, none⟩ = some (.map none) := hA07.cell 0
      have f07 := hA07.frozen 0
      have c17 : w7.cell? ⟨r0 + 1, 0, none⟩ = some (.bool false) := hA17.cell 0
      have f17 := hA17.frozen 0
      clear hG7 hA07 hA17 hg7
      refine ⟨trivial, ?_⟩
      gi_wp2
      exact ⟨HQ.out.1, HQ.out.2⟩
    · have HNM : Hid (∀ W, Calls Try.prog 45 #[x.n.v] W fun e w' => e = .returned (.bool true) ∧ Grows W w') := fun W => by have := named_any x.n W; rwa [hnm] at this
      unfold Nm.v at HNM
      gi_wp2_with (refine ⟨trivial, ?_⟩; gi_at_call 45; refine (callsIn_wide.2 (HNM.out _)).mono ?_; rintro e w7 ⟨rfl, hg7⟩; have hG7 := ((Grows.refl W5).alloc _).trans hg7; have cX7 := (HX5.out.grows hG7).cell; unfold Sn.cs at cX7; have HG7 := Lib.hid hG7; have HT7 := Lib.hid ((At.new W5 _ _).grows hg7); clear hG7 hg7 cX)
      have hn9 := HNUM.out
      have hstep := step_any W5.heap.size r0 t (.slice av (st (L.take k) x.n).length cv) (stc (st (L.take k) x.n)) x k w7 HT7.out (by rw [stc_len]; exact own_grows HROW.out HG7.out) (by have h1 := HG5.out.size; have h2 := HG7.out.size; omega) (by rw [stc_len]; have h1 := st_len (L.take k) x.n; have h2 := HTK.out; have h3 := HKN.out; omega)
      have HSTEP := Lib.hid hstep
      unfold Sn.cs at HSTEP
      clear hstep cX7
      refine ⟨trivial, ?_⟩
      refine (callsIn_wide.2 HSTEP.out).mono ?_
      rintro e w8 ⟨rfl, t', v', xs', h1, h2, h3, h4, h5⟩
      have hrow7 := own_grows HROW.out HG7.out
      have hA07 := HA05.out.grows HG7.out
      have hA17 := HA15.out.grows HG7.out
      have hA37 := HA35.out.grows HG7.out
      have hD7 : w7.heap[D]? = some (.deferred (some [])) := (HG7.out.block _ (Array.getElem?_eq_some_iff.1 HD5.out).1).trans HD5.out
      have hL7 : w7.heap[lp]? = some (.loop (rc .busy)) := (HG7.out.block _ (Array.getElem?_eq_some_iff.1 HL5.out).1).trans HL5.out
      have hX7 := HX5.out.grows HG7.out
      have hlt : ∀ i, i < W5.heap.size → (∀ cur, w7.heap[i]? ≠ some (.cells cur 97 (0, 0))) → w8.heap[i]? = w7.heap[i]? := fun i hi hc => h5.block i (Nat.lt_of_lt_of_le hi HG7.out.size) (fun e => by
        rcases e with e | e
        · omega
        · obtain ⟨cur, q, _⟩ := own_typed hrow7 e
          exact hc cur q)
      have hA08 : At w8 r0 80 #[.map none] := (hlt r0 HA05.out.lt (hA07.noCx (by decide))).trans hA07
      have hA18 : At w8 (r0 + 1) 4 #[.bool false] := (hlt _ HA15.out.lt (hA17.noCx (by decide))).trans hA17
      have hA38 : At w8 (r0 + 1 + 1 + 1) 80 #[.map (some (r0 + 1 + 1))] := (hlt _ HA35.out.lt (hA37.noCx (by decide))).trans hA37
      have hX8 : At w8 W'.heap.size 36 x.cs.toArray := (hlt _ HX5.out.lt (hX7.noCx (by decide))).trans hX7
      have hD8 : w8.heap[D]? = some (.deferred (some [])) := (hlt D (Array.getElem?_eq_some_iff.1 HD5.out).1 (fun cur e => by rw [hD7] at e; cases e)).trans hD7
      have hL8 : w8.heap[lp]? = some (.loop (rc .busy)) := (hlt lp (Array.getElem?_eq_some_iff.1 HL5.out).1 (fun cur e => by rw [hL7] at e; cases e)).trans hL7
      have hGw8 : Grows w w8 := h5.low (HG5.out.trans HG7.out) (fun i hi => by
        rcases hi with hi | hi
        · have := HG5.out.size; omega
        · obtain ⟨_, _, q, _⟩ := own_typed hrow7 hi
          omega)
      have c08 : w8.cell? ⟨r0, 0, none⟩ = some (.map none) := hA08.cell 0
      have f08 := hA08.frozen 0
      have c18 : w8.cell? ⟨r0 + 1, 0, none⟩ = some (.bool false) := hA18.cell 0
      have f18 := hA18.frozen 0
      cases hok : okS x t
      · have HQ := Lib.hid (HSTOP.out w8 hGw8 hA08 hA18 hD8 hL8 (by rw [HOKK.out, hnm, hok]; rfl))
        clear h1 h2 h3 h4 h5 hrow7 hA07 hA17 hA37 hD7 hL7 hX7 hlt hA08 hA18 hA38 hX8 hD8 hL8 hGw8 hn9 hok hlk c3
        gi_wp2
        exact ⟨HQ.out.1, HQ.out.2⟩
      · obtain ⟨rfl, hxs'⟩ := h3 hok
        have hst : stc (st (L.take k ++ [x]) x.n) = xs' := by
          rw [hxs', st_snoc, HTK.out]
          cases hrb : rwB x <;> simp [stc]
        obtain ⟨av', cv', rfl, _⟩ := own_slice h2
        have hTr7 := HT5.out.grows HG7.out
        obtain ⟨es7, cl7, hm7⟩ := hTr7.map.block
        have hm8 := hTr7.map.same (hlt (r0 + 1 + 1) HT5.out.map.lt (fun cur e => by rw [hm7] at e; cases e))
        obtain ⟨w9, hrun9, hm9, ht9⟩ := hm8.store nameLaw Try.underlying80 (((L.take k).map Sn.n).reverse.map Nm.lit) fT_mem (by have h1 := HTK.out; have h2 := HKN.out; simp [maxLen]; omega) (name_key x.n HXO.out) (v := .agg ((nxt k x t).cs (.slice av' xs'.length cv')))
        have hTr9 := hTr7.next (x := x) (w1 := w8) (w2 := w9) (g := W5.heap.size) (v' := .slice av' xs'.length cv') HXO.out (by rw [hst]; exact h2) (by rw [HVV.out]; rcases h4 with h4 | ⟨j, h4, h4'⟩; exact .inl h4; exact .inr ⟨j, h4, h4'⟩) (by rw [HVV.out]; exact h5) ⟨_, HT7.out⟩ (by rw [HTK.out, ← HTT.out]; exact hm9) ht9
        have g9 := ht9.grown
        have hne : ∀ i, i < w8.heap.size → i ≠ r0 + 1 + 1 → w9.heap[i]? = w8.heap[i]? := fun i hi e => g9.block i hi (fun q => e (by injection q))
        have hA09 : At w9 r0 80 #[.map none] := (hne _ hA08.lt (by omega)).trans hA08
        have hA19 : At w9 (r0 + 1) 4 #[.bool false] := (hne _ hA18.lt (by omega)).trans hA18
        have hA39 : At w9 (r0 + 1 + 1 + 1) 80 #[.map (some (r0 + 1 + 1))] := (hne _ hA38.lt (by omega)).trans hA38
        have hD9 : w9.heap[D]? = some (.deferred (some [])) := (hne D (Array.getElem?_eq_some_iff.1 hD8).1 (by omega)).trans hD8
        have hL9 : w9.heap[lp]? = some (.loop (rc .busy)) := (hne lp (Array.getElem?_eq_some_iff.1 hL8).1 (by omega)).trans hL8
        have hG9 : Grows w w9 := ⟨g9.os.trans hGw8.os, g9.tape.trans hGw8.tape, g9.output.trans hGw8.output, Nat.le_trans hGw8.size g9.size, fun i hi => (hne i (Nat.lt_of_lt_of_le hi hGw8.size) (by omega)).trans (hGw8.block i hi)⟩
        have hTu : Turns (fun i => i = lp) w9 (w9.putObj lp (.loop (rc .ready))) (fun _ => False) := ((Turns.refl (fun i => i = lp) w9).put (.inl rfl) _).wide (fun _ h => h) (fun _ h => h.elim)
        have HJ : Hid (w9.heap[lp]? = some (.loop (rc .busy)) ∧ ∃ V, Tr (w9.putObj lp (.loop (rc .ready))) r0 (r0 + 1 + 1) (L.take (k + 1)) V ∧ Grows w (w9.putObj lp (.loop (rc .ready))) ∧ At (w9.putObj lp (.loop (rc .ready))) r0 80 #[.map none] ∧ At (w9.putObj lp (.loop (rc .ready))) (r0 + 1) 4 #[.bool false] ∧ At (w9.putObj lp (.loop (rc .ready))) (r0 + 1 + 1 + 1) 80 #[.map (some (r0 + 1 + 1))] ∧ (w9.putObj lp (.loop (rc .ready))).heap[D]? = some (.deferred (some [])) ∧ (w9.putObj lp (.loop (rc .ready))).heap[lp]? = some (.loop (rc .ready)) ∧ ∀ i, i < k + 1 → okAt L i = true) := by
          refine ⟨hL9, fun n' => if n' = x.n then .slice av' xs'.length cv' else V n', ?_, hTu.low hG9 (fun i hi => by omega), hA09.putObj (by omega) _, hA19.putObj (by omega) _, hA39.putObj (by omega) _, (World.putObj_heap_other (by omega)).trans hD9, World.putObj_heap_same (Array.getElem?_eq_some_iff.1 hL9).1, fun i hi => ?_⟩
          · have := hTr9.far hTu (by omega) (fun i hi cur e => by subst hi; rw [hL9] at e; cases e)
            rwa [← HTK1.out] at this
          · rcases Nat.lt_or_ge i k with h | h
            · exact HALL.out i h
            · rw [show i = k by omega, HOKK.out, hnm, hok]; rfl
        have c38 : w8.cell? ⟨r0 + 1 + 1 + 1, 0, none⟩ = some (.map (some (r0 + 1 + 1))) := hA38.cell 0
        have cX8 := hX8.cell
        have cT8 := h1.cell
        unfold Sn.cs at cX8
        unfold Tk.cs at cT8 hrun9
        unfold Nm.v at hrun9
        clear h1 h2 h4 h5 hrow7 hA07 hA17 hA37 hD7 hL7 hX7 hlt hA08 hA18 hA38 hX8 hD8 hL8 hGw8 hn9 hok hlk c3 hst hTr7 hm7 hm8 hm9 ht9 hTr9 g9 hne hA09 hA19 hA39 hD9 hL9 hG9 hTu hxs' h3
        gi_wp2
        obtain ⟨q1, V', q2, q3⟩ := HJ.out
        exact ⟨q1, ⟨V', q2⟩, q3⟩
  · rintro e W ⟨⟨v, rfl⟩, ⟨V, h1, h2, h3, h4, h5, h6, h7, h8⟩ | ⟨h1, h2, h3, h4, h5, h6⟩⟩
    · refine ⟨⟨_, rfl⟩, .inl ⟨h7, ?_⟩⟩
      have hTu : Turns (fun i => i = lp ∨ i = D ∨ i = r0 ∨ i = r0 + 1) W ((((W.putObj lp (.loop (rc .exhausted))).setCell ⟨r0, 0, none⟩ (.map (some (r0 + 1 + 1)))).setCell ⟨r0 + 1, 0, none⟩ (.bool true)).putObj D (.deferred none)) (fun _ => False) :=
        (((((Turns.refl _ W).put (.inl (.inl rfl)) _).set (.inl (.inr (.inr (.inl rfl)))) 0 _).set (.inl (.inr (.inr (.inr rfl)))) 0 _).put (.inl (.inr (.inl rfl))) _).wide (fun _ h => h) (fun _ h => h.elim)
      have hn9 := HNUM.out
      have HFIN : Hid (Grows w ((((W.putObj lp (.loop (rc .exhausted))).setCell ⟨r0, 0, none⟩ (.map (some (r0 + 1 + 1)))).setCell ⟨r0 + 1, 0, none⟩ (.bool true)).putObj D (.deferred none)) ∧ mayB L = true ∧ Tr ((((W.putObj lp (.loop (rc .exhausted))).setCell ⟨r0, 0, none⟩ (.map (some (r0 + 1 + 1)))).setCell ⟨r0 + 1, 0, none⟩ (.bool true)).putObj D (.deferred none)) r0 (r0 + 1 + 1) L V) := by
        refine ⟨hTu.low h2 (fun i hi => by omega), ?_, ?_⟩
        · unfold mayB
          rw [List.all_eq_true]
          intro i hi
          exact h8 i (by rw [← HN.out]; exact List.mem_range.1 hi)
        · have := h1.far hTu (by omega) (fun i hi cur e => by
            rcases hi with rfl | rfl | rfl | rfl
            · rw [h7] at e; cases e
            · rw [h6] at e; cases e
            · exact h3.noCx (by decide) cur e
            · exact h4.noCx (by decide) cur e)
          rwa [List.take_of_length_le (by rw [HN.out]; exact Nat.le_refl _)] at this
      obtain ⟨W7, hW7⟩ : ∃ W7, W7 = W.putObj lp (.loop (rc .exhausted)) := ⟨_, rfl⟩
      rw [← hW7] at HFIN ⊢
      have k3 : At W7 r0 80 #[.map none] := by rw [hW7]; exact h3.putObj (by omega) _
      have k4 : At W7 (r0 + 1) 4 #[.bool false] := by rw [hW7]; exact h4.putObj (by omega) _
      have k5 : At W7 (r0 + 1 + 1 + 1) 80 #[.map (some (r0 + 1 + 1))] := by rw [hW7]; exact h5.putObj (by omega) _
      have k6 : W7.heap[D]? = some (.deferred (some [])) := by rw [hW7]; exact (World.putObj_heap_other (by omega)).trans h6
      have c3 : W7.cell? ⟨r0, 0, none⟩ = some (.map none) := k3.cell 0
      have f3 := k3.frozen 0
      have c4 : W7.cell? ⟨r0 + 1, 0, none⟩ = some (.bool false) := k4.cell 0
      have f4 := k4.frozen 0
      have c5 : W7.cell? ⟨r0 + 1 + 1 + 1, 0, none⟩ = some (.map (some (r0 + 1 + 1))) := k5.cell 0
      have HD9 : Hid (((W7.setCell ⟨r0, 0, none⟩ (.map (some (r0 + 1 + 1)))).setCell ⟨r0 + 1, 0, none⟩ (.bool true)).heap[D]? = some (.deferred (some []))) := (RowKit.Below.heap_setCell _ _ _ _ (by simp; omega)).trans ((RowKit.Below.heap_setCell _ _ _ _ (by simp; omega)).trans k6)
      have HA9 : Hid (At (((W7.setCell ⟨r0, 0, none⟩ (.map (some (r0 + 1 + 1)))).setCell ⟨r0 + 1, 0, none⟩ (.bool true)).putObj D (.deferred none)) r0 80 #[.map (some (r0 + 1 + 1))]) := At.putObj ((k3.set 0 _).far (by simp) _) (by omega) _
      have HB9 : Hid (At (((W7.setCell ⟨r0, 0, none⟩ (.map (some (r0 + 1 + 1)))).setCell ⟨r0 + 1, 0, none⟩ (.bool true)).putObj D (.deferred none)) (r0 + 1) 4 #[.bool true]) := At.putObj ((k4.far (by simp) _).set 0 _) (by omega) _
      clear hW7 k3 k4 k5 k6 h1 h2 h3 h4 h5 h6 h7 h8 hTu hn9 hrc hrr
      gi_wp2
      refine ⟨by simp, .inl ⟨_, _, rfl, run_takeDeferred HD9.out, ?_⟩⟩
      obtain ⟨q1, q2, q3⟩ := HFIN.out
      exact ⟨_, results_cells2 rfl _ _ r0 (r0 + 1) _ _ rfl rfl (ld_map HA9.out) (ld_bool HB9.out), q1, .inr ⟨q2, _, V, rfl, by rw [hr0]; exact q3⟩⟩
    · refine ⟨⟨_, rfl⟩, .inr ⟨h5, ?_⟩⟩
      have hn9 := HNUM.out
      have hTu : Turns (fun i => i = lp ∨ i = D) W ((W.putObj lp (.loop (rr .exhausted))).putObj D (.deferred none)) (fun _ => False) :=
        (((Turns.refl _ W).put (.inl (.inl rfl)) _).put (.inl (.inr rfl)) _).wide (fun _ h => h) (fun _ h => h.elim)
      have q1 := hTu.low h1 (fun i hi => by omega)
      have k6 : (W.putObj lp (.loop (rr .exhausted))).heap[D]? = some (.deferred (some [])) := (World.putObj_heap_other (by omega)).trans h4
      have q2 : At ((W.putObj lp (.loop (rr .exhausted))).putObj D (.deferred none)) r0 80 #[.map none] := (h2.putObj (by omega) _).putObj (by omega) _
      have q3 : At ((W.putObj lp (.loop (rr .exhausted))).putObj D (.deferred none)) (r0 + 1) 4 #[.bool false] := (h3.putObj (by omega) _).putObj (by omega) _
      clear hrc hrr
      gi_wp2
      refine ⟨by simp, .inl ⟨_, _, rfl, run_takeDeferred k6, ?_⟩⟩
      exact ⟨_, results_cells2 rfl _ _ r0 (r0 + 1) _ _ rfl rfl (ld_map q2) (ld_bool q3), q1, .inl ⟨h6, rfl⟩⟩
end Go.Proofs.Ytfigoeoimefngaa

/-
  order.decided.
-/
namespace Go.Proofs.Ytfigoeoimefngaa
open Go.RowKit Go.Maps Go.Shelf Go.Lib Go.Sort
def sortNm_ren : Go.Shelf.Ren := ⟨fun | 6 => 47 | 15 => 53 | 14 => 52 | 28 => 63 | 29 => 64 | 20 => 55 | 21 => 56 | 22 => 57 | 23 => 58 | 24 => 59 | 25 => 60 | 26 => 61 | 27 => 62 | 46 => 65 | 47 => 66 | 48 => 67 | 49 => 68 | 50 => 69 | 57 => 70 | n => n, fun | 22 => 49 | 24 => 29 | 25 => 94 | 3 => 3 | 39 => 101 | 0 => 0 | 53 => 112 | 55 => 114 | 4 => 4 | 46 => 105 | 45 => 104 | 50 => 109 | 5 => 5 | 9 => 9 | 66 => 115 | 70 => 119 | 76 => 121 | 77 => 122 | n => n, fun | n => n⟩
theorem sortNm : Go.Proofs.SlLaysF0.n6 Try.prog sortNm_ren := {
  mixed := by kernel_rfl
  f6 := ⟨Try.f47.name, by decide, Try.func47.trans (congrArg some (by kernel_rfl))⟩
  f14 := ⟨Try.f52.name, by decide, Try.func52.trans (congrArg some (by kernel_rfl))⟩
  f15 := Try.func53.trans (congrArg some (by kernel_rfl))
  f20 := ⟨Try.f55.name, by decide, Try.func55.trans (congrArg some (by kernel_rfl))⟩
  f21 := ⟨Try.f56.name, by decide, Try.func56.trans (congrArg some (by kernel_rfl))⟩
  f22 := ⟨Try.f57.name, by decide, Try.func57.trans (congrArg some (by kernel_rfl))⟩
  f23 := ⟨Try.f58.name, by decide, Try.func58.trans (congrArg some (by kernel_rfl))⟩
  f24 := ⟨Try.f59.name, by decide, Try.func59.trans (congrArg some (by kernel_rfl))⟩
  f25 := ⟨Try.f60.name, by decide, Try.func60.trans (congrArg some (by kernel_rfl))⟩
  f26 := ⟨Try.f61.name, by decide, Try.func61.trans (congrArg some (by kernel_rfl))⟩
  f27 := ⟨Try.f62.name, by decide, Try.func62.trans (congrArg some (by kernel_rfl))⟩
  f28 := Try.func63.trans (congrArg some (by kernel_rfl))
  f29 := Try.func64.trans (congrArg some (by kernel_rfl))
  f46 := ⟨Try.f65.name, by decide, Try.func65.trans (congrArg some (by kernel_rfl))⟩
  f47 := Try.func66.trans (congrArg some (by kernel_rfl))
  f48 := Try.func67.trans (congrArg some (by kernel_rfl))
  f49 := ⟨Try.f68.name, by decide, Try.func68.trans (congrArg some (by kernel_rfl))⟩
  f50 := ⟨Try.f69.name, by decide, Try.func69.trans (congrArg some (by kernel_rfl))⟩
  f57 := ⟨Try.f70.name, by decide, Try.func70.trans (congrArg some (by kernel_rfl))⟩
  t0 := Try.underlying0
  a0 := Try.isAgg0
  z0 := Try.sizeOf0
  v0 := Try.zeroValue0
  t3 := Try.underlying3
  a3 := Try.isAgg3
  z3 := Try.sizeOf3
  v3 := Try.zeroValue3
  t4 := Try.underlying4
  a4 := Try.isAgg4
  z4 := Try.sizeOf4
  v4 := Try.zeroValue4
  t5 := Try.underlying5
  a5 := Try.isAgg5
  z5 := Try.sizeOf5
  v5 := Try.zeroValue5
  t9 := Try.underlying9
  a9 := Try.isAgg9
  z9 := Try.sizeOf9
  v9 := Try.zeroValue9
  t22 := Try.underlying49
  a22 := Try.isAgg49
  z22 := Try.sizeOf49
  v22 := Try.zeroValue49
  t25 := Try.underlying94
  a25 := Try.isAgg94
  z25 := Try.sizeOf94
  v25 := Try.zeroValue94
  t39 := Try.underlying101
  a39 := Try.isAgg101
  z39 := Try.sizeOf101
  v39 := Try.zeroValue101
  t45 := Try.underlying104
  a45 := Try.isAgg104
  z45 := Try.sizeOf104
  v45 := Try.zeroValue104
  t46 := Try.underlying105
  a46 := Try.isAgg105
  z46 := Try.sizeOf105
  v46 := Try.zeroValue105
  t50 := Try.underlying109
  a50 := Try.isAgg109
  z50 := Try.sizeOf109
  v50 := Try.zeroValue109
  t53 := Try.underlying112
  a53 := Try.isAgg112
  z53 := Try.sizeOf112
  v53 := Try.zeroValue112
  t55 := Try.underlying114
  a55 := Try.isAgg114
  z55 := Try.sizeOf114
  v55 := Try.zeroValue114
  t66 := Try.underlying115
  a66 := Try.isAgg115
  z66 := Try.sizeOf115
  v66 := Try.zeroValue115
  t70 := Try.underlying119
  a70 := Try.isAgg119
  z70 := Try.sizeOf119
  v70 := Try.zeroValue119
  t76 := Try.underlying121
  a76 := Try.isAgg121
  z76 := Try.sizeOf121
  v76 := Try.zeroValue121
  t77 := Try.underlying122
  a77 := Try.isAgg122
  z77 := Try.sizeOf122
  v77 := Try.zeroValue122 }

def cmpI (a b : Int) : Int := if a < b then -1 else if b < a then 1 else 0
theorem isNaN_any (n : Int) (w : World) : Calls Try.prog 54 #[.int .i64 n] w fun e w' => e = .returned (.bool false) ∧ w = w' := by
  go_enter Try.func54, Try.ntmps54
  go_wp2
  go_ret
  exact ⟨rfl, rfl⟩
theorem compare_any (a b : Int) (w : World) : Calls Try.prog 49 #[.int .i64 a, .int .i64 b] w fun e w' => e = .returned (.int .i64 (cmpI a b)) ∧ w = w' := by
  by_cases h1 : a < b
  · rw [show cmpI a b = -1 by simp [cmpI, h1]]
    go_enter Try.func49, Try.ntmps49
    go_wp2_with (first | (go_at_call 54; refine (isNaN_any _ _).mono ?_; rintro e w1 ⟨rfl, rfl⟩))
    go_ret
    exact ⟨rfl, rfl⟩
  · by_cases h2 : b < a
    · rw [show cmpI a b = 1 by simp [cmpI, h1, h2]]
      go_enter Try.func49, Try.ntmps49
      go_wp2_with (first | (go_at_call 54; refine (isNaN_any _ _).mono ?_; rintro e w1 ⟨rfl, rfl⟩))
      go_ret
      exact ⟨rfl, rfl⟩
    · rw [show cmpI a b = 0 by simp [cmpI, h1, h2]]
      go_enter Try.func49, Try.ntmps49
      go_wp2_with (first | (go_at_call 54; refine (isNaN_any _ _).mono ?_; rintro e w1 ⟨rfl, rfl⟩))
      go_ret
      exact ⟨rfl, rfl⟩
end Go.Proofs.Ytfigoeoimefngaa

/-
  order.decided: the comparison that is handed to the sort.
-/
namespace Go.Proofs.Ytfigoeoimefngaa
open Go.RowKit Go.Maps Go.Shelf Go.Lib Go.Sort

theorem field_p (W : World) (b c a d : Bool) (p : Int) (ax : Option Addr) (nx px : Nat) : (Instr.field 90 (.agg #[.bool b, .bool c, .bool a, .bool d, .int .i64 p, .slice ax nx px]) 4).run Try.prog W = .ok (.int .i64 p) W := by kernel_rfl
set_option maxHeartbeats 2000000 in
theorem cmpNm_any (x y : Nm) (t u : Tk) (ax ay : Option Addr) (nx px ny py m bx : Nat) (W : World) (hbx : W.cell? ⟨bx, 0, none⟩ = some (.map (some m)))
    (hx : ∀ W', Grows W W' → (Instr.lookup 80 (.map (some m)) x.v false).run Try.prog W' = .ok (.agg (t.cs (.slice ax nx px))) W')
    (hy : ∀ W', Grows W W' → (Instr.lookup 80 (.map (some m)) y.v false).run Try.prog W' = .ok (.agg (u.cs (.slice ay ny py))) W') :
    Calls Try.prog 48 #[x.v, y.v, .pointer (some ⟨bx, 0, none⟩)] W fun e w' => e = .returned (.int .i64 (cmpI t.p u.p)) ∧ ∃ q os', w' = grow (W.drewN q) os' := by
  have hC : ∀ W', Calls Try.prog 49 #[.int .i64 t.p, .int .i64 u.p] W' fun e w' => e = .returned (.int .i64 (cmpI t.p u.p)) ∧ w' = W' := fun W' => (compare_any t.p u.p W').mono fun _ _ h => ⟨h.1, h.2.symm⟩
  have hl := World.block_lt_of_cell? W _ hbx
  have hfp := field_p
  generalize cmpI t.p u.p = r at *
  obtain ⟨W2, hW2⟩ : ∃ W2, W2 = (W.alloc (.cells #[.int .i64 x.s, .int .i64 x.i, .int .i64 x.t] 29)).alloc (.cells #[.int .i64 y.s, .int .i64 y.i, .int .i64 y.t] 29) := ⟨_, rfl⟩
  have hG : Grows W W2 := by rw [hW2]; exact ((Grows.refl _).alloc _).alloc _
  have hxk := fun k => hx (W2.drewN k) (hG.drewN k)
  have hyk := fun k => hy (W2.drewN k) (hG.drewN k)
  have hc2 : W2.cell? ⟨bx, 0, none⟩ = some (.map (some m)) := (hG.cell _ _ hl).trans hbx
  have hA : At W2 W.heap.size 29 #[.int .i64 x.s, .int .i64 x.i, .int .i64 x.t] := by rw [hW2]; exact (At.new W _ _).alloc _
  have hB : At W2 (W.heap.size + 1) 29 #[.int .i64 y.s, .int .i64 y.i, .int .i64 y.t] := by
    have := At.new (W.alloc (.cells #[.int .i64 x.s, .int .i64 x.i, .int .i64 x.t] 29)) 29 #[.int .i64 y.s, .int .i64 y.i, .int .i64 y.t]
    rw [World.size_alloc] at this
    rw [hW2]; exact this
  have cA := hA.cell
  have cB := hB.cell
  unfold Nm.v Tk.cs at *
  clear hx hy hbx hl hA hB hG
  go_enter Try.func48, Try.ntmps48
  go_wp2_with fail
  rw [← hW2]
  have HW2 := Lib.hid hW2
  clear hW2
  go_quiet (first | (go_at_call 49; refine Calls.quiet_of_same (hC _)))
  go_wp2_with fail
  go_ret
  refine ⟨rfl, nq, #[.cells #[.int .i64 x.s, .int .i64 x.i, .int .i64 x.t] 29, .cells #[.int .i64 y.s, .int .i64 y.i, .int .i64 y.t] 29], ?_⟩
  rw [HW2.out, alloc_eq_grow, alloc_eq_grow, grow_grow]
  rfl
end Go.Proofs.Ytfigoeoimefngaa

/-
  Plain: of a history that may be, the commits' places; the names that were decided.
-/
namespace Go.Proofs.Ytfigoeoimefngaa
open Go.RowKit

theorem okAt_append (l : List Sn) (x : Sn) (i : Nat) (h : i < l.length) : okAt (l ++ [x]) i = okAt l i := by
  unfold okAt
  rw [List.getElem?_append_left h, List.take_append_of_le_length (by omega)]
theorem mayB_snoc (l : List Sn) (x : Sn) : mayB (l ++ [x]) = (mayB l && (namedB x.n && okS x (tk l x.n))) := by
  unfold mayB
  rw [List.length_append, List.length_singleton, List.range_succ, List.all_append]
  congr 1
  · rw [Bool.eq_iff_iff, List.all_eq_true, List.all_eq_true]
    constructor
    · intro h i hi
      rw [← okAt_append l x i (List.mem_range.1 hi)]
      exact h i hi
    · intro h i hi
      rw [okAt_append l x i (List.mem_range.1 hi)]
      exact h i hi
  · simp [okAt]
theorem snoc_ind {P : List Sn → Prop} (h0 : P []) (h1 : ∀ l x, P l → P (l ++ [x])) (l : List Sn) : P l := by
  have : ∀ n (l : List Sn), l.length = n → P l := by
    intro n
    induction n with
    | zero => intro l h; rw [List.eq_nil_of_length_eq_zero h]; exact h0
    | succ n ih =>
      intro l h
      have hne : l ≠ [] := by rintro rfl; simp at h
      rw [← List.dropLast_concat_getLast hne]
      exact h1 _ _ (ih _ (by simp; omega))
  exact this _ l rfl
theorem nxt_c (z : Int) (x : Sn) (t : Tk) : (nxt z x t).c = (t.c || x.k == 3) := by
  unfold nxt
  by_cases h0 : x.k = 0
  · simp [h0]
  · by_cases h3 : x.k = 3
    · simp [h3]
    · by_cases h4 : x.k = 4
      · simp [h4]
      · by_cases h5 : x.k = 5 <;> simp [h0, h3, h4, h5]
theorem nxt_p (z : Int) (x : Sn) (t : Tk) : (nxt z x t).p = if x.k = 3 then z else t.p := by
  unfold nxt
  by_cases h0 : x.k = 0
  · simp [h0]
  · by_cases h3 : x.k = 3
    · simp [h3]
    · by_cases h4 : x.k = 4
      · simp [h4]
      · by_cases h5 : x.k = 5 <;> simp [h0, h3, h4, h5]
theorem nxt_d (z : Int) (x : Sn) (t : Tk) : (nxt z x t).d = (t.d || x.k == 5) := by
  unfold nxt
  by_cases h0 : x.k = 0
  · simp [h0]
  · by_cases h3 : x.k = 3
    · simp [h3]
    · by_cases h4 : x.k = 4
      · simp [h4]
      · by_cases h5 : x.k = 5 <;> simp [h0, h3, h4, h5]
theorem ok3 {x : Sn} {t : Tk} (h : okS x t = true) (hk : x.k = 3) : t.c = false ∧ t.b = true := by
  simp [okS, hk, rwB] at h
  exact ⟨h.2, h.1⟩
theorem ok5 {x : Sn} {t : Tk} (h : okS x t = true) (hk : x.k = 5) : t.c = true ∧ t.d = false := by
  simp [okS, hk, rwB] at h
  exact ⟨h.2.2, h.2.1⟩
/-- The commits of a history that may be. -/
structure Com (l : List Sn) : Prop where
  put : ∀ (i : Nat) (x : Sn), l[i]? = some x → x.k = 3 → (tk l x.n).c = true ∧ (tk l x.n).p = (i : Int)
  got : ∀ n, (tk l n).c = true → ∃ (i : Nat) (x : Sn), l[i]? = some x ∧ x.k = 3 ∧ x.n = n ∧ (tk l n).p = (i : Int)
  dec : ∀ n, (tk l n).d = true → (tk l n).c = true
theorem com_at (l : List Sn) : mayB l = true → Com l := by
  refine snoc_ind (P := fun l => mayB l = true → Com l) ?_ ?_ l
  · intro _
    refine ⟨fun i x h => by simp at h, fun n h => by simp [tk, tkA, Tk.zero] at h, fun n h => by simp [tk, tkA, Tk.zero] at h⟩
  · intro l x ih h
    rw [mayB_snoc, Bool.and_eq_true, Bool.and_eq_true] at h
    obtain ⟨h1, h2, h3⟩ := ih h.1
    have hok := h.2.2
    refine ⟨fun i y hy hk => ?_, fun n hn => ?_, fun n hn => ?_⟩
    · by_cases hi : i < l.length
      · rw [List.getElem?_append_left hi] at hy
        obtain ⟨q1, q2⟩ := h1 i y hy hk
        rw [tk_snoc]
        by_cases e : x.n = y.n
        · rw [if_pos e, nxt_c, nxt_p, q1]
          refine ⟨by simp, ?_⟩
          by_cases h3 : x.k = 3
          · have := (ok3 hok h3).1
            rw [e, q1] at this
            cases this
          · rw [if_neg h3, q2]
        · rw [if_neg e]; exact ⟨q1, q2⟩
      · have hl : i = l.length := by
          have := (List.getElem?_eq_some_iff.1 hy).1
          simp at this
          omega
        subst hl
        rw [List.getElem?_append_right (Nat.le_refl _), Nat.sub_self] at hy
        simp at hy
        subst hy
        rw [tk_snoc, if_pos rfl, nxt_c, nxt_p, if_pos hk]
        exact ⟨by simp [hk], rfl⟩
    · rw [tk_snoc] at hn ⊢
      by_cases e : x.n = n
      · rw [if_pos e] at hn ⊢
        rw [nxt_c] at hn
        by_cases h3 : x.k = 3
        · exact ⟨l.length, x, by simp, h3, e, by rw [nxt_p, if_pos h3]⟩
        · simp [h3] at hn
          obtain ⟨i, y, a1, a2, a3, a4⟩ := h2 n hn
          exact ⟨i, y, by rw [List.getElem?_append_left (List.getElem?_eq_some_iff.1 a1).1]; exact a1, a2, a3, by rw [nxt_p, if_neg h3]; exact a4⟩
      · rw [if_neg e] at hn ⊢
        obtain ⟨i, y, a1, a2, a3, a4⟩ := h2 n hn
        exact ⟨i, y, by rw [List.getElem?_append_left (List.getElem?_eq_some_iff.1 a1).1]; exact a1, a2, a3, a4⟩
    · rw [tk_snoc] at hn ⊢
      by_cases e : x.n = n
      · rw [if_pos e] at hn ⊢
        rw [nxt_d] at hn
        rw [nxt_c]
        by_cases h5 : x.k = 5
        · have := (ok5 hok h5).1
          rw [e] at this
          simp [this]
        · simp [h5] at hn
          simp [h3 n hn]
      · rw [if_neg e] at hn ⊢
        exact h3 n hn

/-- The names that were decided, by the place of their Commit. -/
def decL (l : List Sn) : List Nm := (l.filter fun x => x.k == 3 && (tk l x.n).d).map Sn.n
theorem mem_decL {l : List Sn} (h : Com l) (n : Nm) : n ∈ decL l ↔ (tk l n).d = true := by
  unfold decL
  rw [List.mem_map]
  constructor
  · rintro ⟨x, hx, rfl⟩
    have := (List.mem_filter.1 hx).2
    simp at this
    exact this.2
  · intro hd
    obtain ⟨i, x, a1, a2, rfl, _⟩ := h.got n (h.dec n hd)
    exact ⟨x, List.mem_filter.2 ⟨List.mem_of_getElem? a1, by simp [a2, hd]⟩, rfl⟩
theorem decL_rises {l : List Sn} (h : Com l) : (decL l).Pairwise fun a b => (tk l a).p < (tk l b).p := by
  unfold decL
  rw [List.pairwise_map]
  have key : ∀ (l' : List Sn) (o : Nat), (∀ i x, l'[i]? = some x → l[o + i]? = some x) → (l'.filter fun x => x.k == 3 && (tk l x.n).d).Pairwise fun a b => (tk l a.n).p < (tk l b.n).p := by
    intro l'
    induction l' with
    | nil => intro _ _; simp
    | cons x l' ih =>
      intro o ho
      have ih' := ih (o + 1) (fun i y hy => by have := ho (i + 1) y (by simpa using hy); rwa [show o + 1 + i = o + (i + 1) by omega])
      rw [List.filter_cons]
      split
      · rename_i hx
        simp at hx
        refine List.pairwise_cons.2 ⟨fun y hy => ?_, ih'⟩
        obtain ⟨hy1, hy2⟩ := List.mem_filter.1 hy
        simp at hy2
        obtain ⟨i, hi⟩ := List.getElem?_of_mem hy1
        have e1 := (h.put o x (by simpa using ho 0 x (by simp)) hx.1).2
        have e2 := (h.put (o + (i + 1)) y (ho (i + 1) y (by simpa using hi)) hy2.1).2
        rw [e1, e2]
        omega
      · exact ih'
  exact key l 0 (fun i x hx => by rwa [Nat.zero_add])
/-- Two lists with the same members that rise by p are one. -/
theorem rise_unique {p : Nm → Int} : ∀ {a b : List Nm}, a.Pairwise (fun x y => p x < p y) → b.Pairwise (fun x y => p x < p y) → (∀ n, n ∈ a ↔ n ∈ b) → a = b
  | [], [], _, _, _ => rfl
  | [], y :: b, _, _, h => by have := (h y).2 (by simp); cases this
  | x :: a, [], _, _, h => by have := (h x).1 (by simp); cases this
  | x :: a, y :: b, ha, hb, h => by
    obtain ⟨ha1, ha2⟩ := List.pairwise_cons.1 ha
    obtain ⟨hb1, hb2⟩ := List.pairwise_cons.1 hb
    have e : x = y := by
      have h1 := (h x).1 (by simp)
      have h2 := (h y).2 (by simp)
      rcases List.mem_cons.1 h1 with e | h1
      · exact e
      · rcases List.mem_cons.1 h2 with e | h2
        · exact e.symm
        · have := ha1 y h2
          have := hb1 x h1
          omega
    subst e
    have : a = b := rise_unique ha2 hb2 fun n => by
      constructor
      · intro hn
        rcases List.mem_cons.1 ((h n).1 (by simp [hn])) with e | hn'
        · subst e; have := ha1 n hn; omega
        · exact hn'
      · intro hn
        rcases List.mem_cons.1 ((h n).2 (by simp [hn])) with e | hn'
        · subst e; have := hb1 n hn; omega
        · exact hn'
    rw [this]
end Go.Proofs.Ytfigoeoimefngaa

/-
  slices.SortFunc at names, by the places of their Commits.
-/
namespace Go.Proofs.Ytfigoeoimefngaa
open Go.RowKit Go.Maps Go.Shelf Go.Lib Go.Sort

abbrev Nk := { n : Nm // n.ok }
instance : Inhabited Nk := ⟨⟨Nm.zero, Nm.zero_ok⟩⟩
def encN (x : Nk) : List Value := x.1.cs
def cfN (l : List Sn) (x y : Nk) : Int := cmpI (tk l x.1).p (tk l y.1).p
theorem ltN (l : List Sn) (x y : Nk) : ltOf (cfN l) x y = decide ((tk l x.1).p < (tk l y.1).p) := by
  unfold ltOf cfN cmpI
  by_cases h1 : (tk l x.1).p < (tk l y.1).p
  · simp [h1]
  · by_cases h2 : (tk l y.1).p < (tk l x.1).p <;> simp [h1, h2]
theorem swoN (l : List Sn) : SWO (ltOf (cfN l)) where
  irrefl x := by rw [ltN]; simp
  trans x y z h1 h2 := by rw [ltN] at *; simp at *; omega
  ntrans x y z h1 h2 := by rw [ltN] at *; simp at *; omega
theorem aggN (w : World) : (isAgg 29).run Try.prog w = .ok true w := by kernel_rfl
theorem sizeN (w : World) : (Go.sizeOf 29).run Try.prog w = .ok 3 w := by kernel_rfl
/-- The blocks of a world that the sort passes through. -/
theorem heap_sort {α : Type} [Inhabited α] (enc : α → List Value) (k : Nat) (W : World) (blk off n : Nat) (dk : Array α) (os : Array Obj) (j : Nat) (h1 : j ≠ blk) (h2 : j < W.heap.size) : (sortWorldK enc k W blk off n dk os).heap[j]? = W.heap[j]? := by
  have e : (putRowK enc k (Sort.ahead W n) blk off dk).heap[j]? = W.heap[j]? := by
    simp [putRowK, putRow, mapBlock, Sort.ahead, Array.getElem?_modify, Ne.symm h1]
  unfold sortWorldK grow
  simp only
  rw [Array.getElem?_append_left (by rw [size_putRowK]; exact h2)]
  exact e
theorem names_sub : ∀ (ns : List Nm), (∀ n ∈ ns, n.ok) → ∃ ds : List Nk, ds.map Subtype.val = ns
  | [], _ => ⟨[], rfl⟩
  | n :: ns, h => by
    obtain ⟨ds, hd⟩ := names_sub ns (fun x hx => h x (by simp [hx]))
    exact ⟨⟨n, h n (by simp)⟩ :: ds, by simp [hd]⟩
theorem flat_rows (ds : List Nk) (j : Nat) (hj : j < ds.length * 3) : (flatK encN 3 ds.toArray)[j]! = ((rowsOf Nm.cs (ds.map Subtype.val))[j]?).getD default := by
  rw [get_flatK encN 3 ds.toArray j (by simpa using hj)]
  have h1 : j / 3 < ds.length := by omega
  have h2 := rows_get Nm.cs_len (ds.map Subtype.val) (j / 3) (j % 3) (by simpa using h1) (by omega)
  rw [show j / 3 * 3 + j % 3 = j by omega] at h2
  rw [h2]
  have h3 : ds.toArray[j / 3]! = ds[j / 3] := by simp [h1]
  rw [h3]
  simp only [List.getElem_map, encN]
  rw [List.getElem!_eq_getElem?_getD]
theorem rd_holds {w : World} {g : Nat} {ds : List Nk} (h : HoldsK encN 3 w g 0 ds.toArray) (hg : g < w.heap.size) : Rd w (some ⟨g, 0, none⟩) (rowsOf Nm.cs (ds.map Subtype.val)) := by
  refine .inr ⟨g, 0, rfl, hg, fun i v hv => ?_⟩
  have hl : i < ds.length * 3 := by
    rcases Nat.lt_or_ge i (ds.length * 3) with h | h
    · exact h
    · rw [List.getElem?_eq_none (by rw [rows_length Nm.cs_len, List.length_map]; exact h)] at hv; cases hv
  have := (h i (by simpa using hl)).1
  rw [this]
  simp only [id_eq]
  rw [flat_rows ds i hl, hv]
  rfl
theorem holds_own {w : World} {B g cap : Nat} {ds : List Nk} (h : w.ownsRow B 29 3 (.slice (some ⟨g, 0, none⟩) ds.length cap) ds.length (rowsOf Nm.cs (ds.map Subtype.val))) : HoldsK encN 3 w g 0 ds.toArray := by
  intro j hj
  have hj' : j < ds.length * 3 := by simpa using hj
  obtain ⟨cur, hcur, _⟩ := own_typed h (b := g) rfl
  constructor
  · have hx : j < (rowsOf Nm.cs (ds.map Subtype.val)).length := by rw [rows_length Nm.cs_len, List.length_map]; exact hj'
    obtain ⟨b, off, e, _, hc⟩ := (Rd.own h).at (by omega)
    cases e
    rw [hc j hx]
    simp only [id_eq]
    rw [flat_rows ds j hj', List.getElem?_eq_getElem hx]
    rfl
  · simp [World.frozen?, hcur]

set_option maxHeartbeats 2000000 in
theorem sort_any {wr : World} {B m bx g cap B0 : Nat} {l : List Sn} {V : Nm → Value} (hT : Tr wr B m l V) (hbx : At wr bx 80 #[.map (some m)]) (ns : List Nm) (hns : ∀ n ∈ ns, n.ok)
    (hown : wr.ownsRow B0 29 3 (.slice (some ⟨g, 0, none⟩) ns.length cap) ns.length (rowsOf Nm.cs ns)) (hlen : ns.length ≤ 1000000) :
    Calls Try.prog 47 #[.slice (some ⟨g, 0, none⟩) ns.length cap, .func (.func 48) #[] #[.pointer (some ⟨bx, 0, none⟩)]] wr fun e w' =>
      e = .returned (.tuple #[]) ∧ ∃ ns' : List Nm, ns'.Perm ns ∧ ns'.Pairwise (fun a b => (tk l a).p ≤ (tk l b).p) ∧ Rd w' (some ⟨g, 0, none⟩) (rowsOf Nm.cs ns') ∧ Turns (fun i => i = g) wr w' (fun i => i = g) := by
  obtain ⟨ds, rfl⟩ := names_sub ns hns
  rw [List.length_map] at hown hlen ⊢
  obtain ⟨cur, hcur, _, hgl⟩ := own_typed hown (b := g) rfl
  have hH := holds_own hown
  have hgb : g ≠ bx := fun e => own_apart hown hbx (by decide) (by rw [← e]; rfl)
  obtain ⟨es, cl, hmb⟩ := hT.map.block
  have hgm : m ≠ g := fun e => by rw [e, hcur] at hmb; cases hmb
  have hcmp : CmpLays Try.prog 48 #[.pointer (some ⟨bx, 0, none⟩)] encN 3 (cfN l) g 0 ds.toArray.size wr := by
    intro k os dk hs x y
    have hTW : Tr (sortWorldK encN 3 wr g 0 k dk os) B m l V := hT.same (heap_sort _ _ _ _ _ _ _ _ _ hgm hT.map.lt) (fun n b hb => by
      obtain ⟨cur', q, _, ql⟩ := own_typed (hT.row n) hb
      refine heap_sort _ _ _ _ _ _ _ _ _ (fun e => ?_) ql
      rw [e, hcur] at q
      injection q with q
      injection q with _ q
      exact absurd q (by decide))
    have hbW : At (sortWorldK encN 3 wr g 0 k dk os) bx 80 #[.map (some m)] := (heap_sort _ _ _ _ _ _ _ _ _ (Ne.symm hgb) hbx.lt).trans hbx
    obtain ⟨ax, px, hvx, _⟩ := own_slice (hT.row x.1)
    obtain ⟨ay, py, hvy, _⟩ := own_slice (hT.row y.1)
    exact cmpNm_any x.1 y.1 (tk l x.1) (tk l y.1) ax ay _ px _ py m bx _ (hbW.cell 0) (fun W' hW' => by have := (hTW.grows hW').look x.2; rwa [hvx] at this) (fun W' hW' => by have := (hTW.grows hW').look y.2; rwa [hvy] at this)
  have eg : ∀ args w, (callFunc 48 args).run Try.prog w = .ok (.enter 48 args) w := enters_of Try.func48 (by kernel_rfl) rfl
  have hcon := AnyQ.slices_SortFunc sortNm 3 aggN sizeN encN (fun _ => rfl) (fun x v hv => by simp [encN, Nm.cs] at hv; rcases hv with rfl | rfl | rfl <;> rfl) (cfN l) (swoN l) 48 #[.pointer (some ⟨bx, 0, none⟩)] g 0 cap ds.toArray wr eg hcmp hH hgl (by simp; omega)
  have hsz : ds.toArray.size = ds.length := by simp
  rw [hsz] at hcon
  refine Calls.mono hcon ?_
  rintro e w' ⟨rfl, d', n, os, hp, hs, rfl⟩
  obtain ⟨p1, p2, p3⟩ := hp
  refine ⟨rfl, d'.toList.map Subtype.val, ?_, ?_, ?_, ?_⟩
  · have e2 : d'.extract 0 ds.length = d' := by rw [← hsz, ← p1]; exact Array.extract_size
    rw [e2, ← hsz, Array.extract_size] at p3
    exact p3.map Subtype.val
  · rw [List.pairwise_map, List.pairwise_iff_getElem]
    intro i j hi hj hij
    have hi' : i < d'.size := by simpa using hi
    have hj' : j < d'.size := by simpa using hj
    have h9 := hs i j (Nat.zero_le _) hij (by omega)
    rw [getElem!_pos d' j hj', getElem!_pos d' i hi', ltN] at h9
    simp only [decide_eq_false_iff_not, Int.not_lt] at h9
    simpa using h9
  · have := holdsK_sortWorldK_c (enc := encN) (k := 3) (w := wr) (blk := g) (off := 0) ds.toArray d' n os hH hgl p1
    exact rd_holds (ds := d'.toList) (by simpa using this) (Nat.lt_of_lt_of_le hgl (size_sortWorldK_c encN 3 wr g 0 n d' os))
  · exact ⟨rfl, rfl, rfl, size_sortWorldK_c encN 3 wr g 0 n d' os, fun i hi hn => heap_sort _ _ _ _ _ _ _ _ _ hn hi, fun i hi => .inl hi⟩
end Go.Proofs.Ytfigoeoimefngaa

/-
  order.decided.
-/
namespace Go.Proofs.Ytfigoeoimefngaa
open Go.RowKit Go.Maps Go.Shelf Go.Lib Go.Sort

theorem info_nm : (Try.prog.info? 29).map (fun i => (i.zero, i.size, i.bytes)) = some (some (.agg #[.int .i64 0, .int .i64 0, .int .i64 0]), 3, 24) := by kernel_rfl
theorem nms_one (l : List Nm) : ∀ u ∈ rowsOf Nm.cs l, u.oneCell' = true := rows_all (fun x u hu => by simp only [Nm.cs, List.mem_cons, List.not_mem_nil, or_false] at hu; rcases hu with rfl | rfl | rfl <;> rfl) l
/-- An entry of the map, as the range hands it over. -/
def mkT (l : List Sn) (p : Nm × Option Addr × Nat) : Value := .agg ((tk l p.1).cs (.slice p.2.1 (st l p.1).length p.2.2))
theorem tr_shape {w : World} {B m : Nat} {l : List Sn} {V : Nm → Value} (h : Tr w B m l V) :
    ∀ key kl v, keyOf Try.prog 29 key = some kl → fT (l.map Sn.n).reverse (fun n => .agg ((tk l n).cs (V n))) kl = some v → ∃ x : Nm × Option Addr × Nat, key = x.1.v ∧ v = mkT l x ∧ kl = x.1.lit ∧ (x.1.ok ∧ x.1 ∈ l.map Sn.n) := by
  intro key kl v hk hf
  obtain ⟨n, hn, rfl, rfl⟩ := key_name hk
  rw [fT_at h.names _ hn] at hf
  by_cases hm : n ∈ (l.map Sn.n).reverse
  · rw [if_pos hm] at hf
    injection hf with hf
    obtain ⟨a, c, hv, _⟩ := own_slice (h.row n)
    exact ⟨⟨n, a, c⟩, rfl, by rw [← hf, hv]; rfl, rfl, hn, List.mem_reverse.1 hm⟩
  · rw [if_neg hm] at hf; cases hf

theorem nodup_le : ∀ (a b : List Nm), a.Nodup → (∀ x ∈ a, x ∈ b) → a.length ≤ b.length
  | [], _, _, _ => Nat.zero_le _
  | x :: a, b, h, hs => by
    obtain ⟨h1, h2⟩ := List.nodup_cons.1 h
    obtain ⟨s, t, rfl⟩ := List.append_of_mem (hs x (by simp))
    have := nodup_le a (s ++ t) h2 fun y hy => by
      have h3 := hs y (by simp [hy])
      have h4 : y ≠ x := fun e => h1 (e ▸ hy)
      simp only [List.mem_append, List.mem_cons] at h3 ⊢
      rcases h3 with h3 | h3 | h3
      · exact .inl h3
      · exact absurd h3 h4
      · exact .inr h3
    simp only [List.length_append, List.length_cons] at this ⊢
    omega
/-- The range's own block is no row's. -/
theorem Rg.apart {P : Program} {k : TypeId} {wr : World} {m r cnt B size n : Nat} {f : Lit → Option Value} {left : Lit → Bool} (h : Rg P k wr m r f left cnt) {v : Value} {e : TypeId} {xs : List Value} (hv : wr.ownsRow B e size v n xs) : v.ownBlock ≠ some r := fun hb => by
  obtain ⟨D, ⟨es, clock, since, seen, c0, h1, h2, h3, h4, h5, h6⟩, _⟩ := h
  obtain ⟨cur, hcur, _⟩ := own_typed hv hb
  rw [h5] at hcur
  cases hcur
theorem dec_unique {l : List Sn} (h : Com l) {ns : List Nm} (hnd : ns.Nodup) (hmem : ∀ n, n ∈ ns ↔ (tk l n).d = true) :
    ∀ ns' : List Nm, ns'.Perm ns → ns'.Pairwise (fun a b => (tk l a).p ≤ (tk l b).p) → ns' = decL l := by
  intro ns' hp hs
  have hnd' : ns'.Nodup := hp.nodup_iff.2 hnd
  have hm' : ∀ n, n ∈ ns' ↔ (tk l n).d = true := fun n => (hp.mem_iff).trans (hmem n)
  have hst : ns'.Pairwise (fun a b => (tk l a).p < (tk l b).p) := by
    refine (hs.and hnd').imp_of_mem ?_
    intro a b ha hb hab
    obtain ⟨h1, h2⟩ := hab
    rcases Int.lt_or_eq_of_le h1 with h3 | h3
    · exact h3
    · exfalso
      obtain ⟨i, x, a1, _, a3, a4⟩ := h.got a (h.dec a ((hm' a).1 ha))
      obtain ⟨j, y, b1, _, b3, b4⟩ := h.got b (h.dec b ((hm' b).1 hb))
      have e : i = j := by omega
      subst e
      rw [a1] at b1
      injection b1 with b1
      subst b1
      exact h2 (a3.symm.trans b3)
  exact rise_unique hst (decL_rises h) (fun n => (hm' n).trans (mem_decL h n).symm)
set_option maxHeartbeats 4000000 in
theorem decided_any {w : World} {B m : Nat} {l : List Sn} {V : Nm → Value} (h : Tr w B m l V) (hl : l.length ≤ 1000000) (hc : Com l) :
    Calls Try.prog 42 #[.map (some m)] w fun e w' => ∃ a cap, e = .returned (.slice a (decL l).length cap) ∧ Rd w' a (rowsOf Nm.cs (decL l)) ∧ (decL l).length ≤ cap ∧ Grows w w' ∧ ∀ b off, a = some ⟨b, off, none⟩ → w.heap.size ≤ b := by
  have H := Lib.hid h
  have HL := Lib.hid hl
  have HC := Lib.hid hc
  clear h hl hc
  have HW : Hid (Tr (w.alloc (.cells #[.map (some m)] 80)) B m l V) := H.out.grows ((Grows.refl _).alloc _)
  obtain ⟨i0, hi0, hz0, hz1, hz2⟩ := info_parts info_nm
  obtain ⟨f, hf⟩ : ∃ f, f = fT (l.map Sn.n).reverse (fun n => .agg ((tk l n).cs (V n))) := ⟨_, rfl⟩
  have HF := Lib.hid hf
  have HMP : Hid (Mp Try.prog 29 (w.alloc (.cells #[.map (some m)] 80)) m f) := by show Mp _ _ _ _ _; rw [hf]; exact HW.out.map
  have HSH : Hid (∀ key kl v, keyOf Try.prog 29 key = some kl → f kl = some v → ∃ x : Nm × Option Addr × Nat, key = x.1.v ∧ v = mkT l x ∧ kl = x.1.lit ∧ (x.1.ok ∧ x.1 ∈ l.map Sn.n)) := by
    show ∀ _, _
    rw [hf]
    exact tr_shape H.out
  clear hf
  go_enter Try.func42, Try.ntmps42
  go_wp2_with (at_range; refine wpList_range_mp _ rfl _ 80 rfl 29 90 nameLaw Try.underlying80 m f rfl HMP.out ?_; intro w0 cnt0 hrg0 hg0 hs0)
  go_frame
  rw [World.size_alloc] at hrg0 hs0 ⊢
  have HRG0 := Lib.hid hrg0
  have HG0 : Hid (Grows w w0) := ((Grows.refl w).alloc _).trans hg0
  have HB0 : Hid (At w0 w.heap.size 80 #[.map (some m)]) := (At.new w _ _).grows hg0
  have HIN : Hid (∀ n : Nm, n.ok → (f n.lit).isSome = true ∨ n ∉ l.map Sn.n) := fun n hn => by
    rw [HF.out, fT_at H.out.names _ hn]
    by_cases hm : n ∈ l.map Sn.n
    · left; rw [if_pos (List.mem_reverse.2 hm)]; rfl
    · exact .inr hm
  clear hrg0 hg0 hs0
  go_loopg [3] cnt0 (fun gh v3 wr => ∃ (left : Lit → Bool) (ns : List Nm), Rg Try.prog 29 wr m (w.heap.size + 1) f left gh ∧ wr.ownsRow w.heap.size 29 3 v3 ns.length (rowsOf Nm.cs ns) ∧ Grows w wr ∧ At wr w.heap.size 80 #[.map (some m)] ∧ (∀ n, n ∈ ns ↔ (n.ok ∧ n ∈ l.map Sn.n ∧ (tk l n).d = true ∧ left n.lit = false)) ∧ ns.Nodup)
  case atStart =>
    refine ⟨_, [], HRG0.out, World.ownsRow_nil _ _ _ _, HG0.out, HB0.out, fun n => ⟨(fun h => by cases h), fun ⟨h1, h2, _, h4⟩ => ?_⟩, List.nodup_nil⟩
    rcases HIN.out n h1 with h | h
    · rw [h] at h4; cases h4
    · exact absurd h2 h
  case round =>
    obtain ⟨left, ns, hrg, hown, hg, hB, hin, hnd⟩ := hrel
    have HRG := Lib.hid hrg
    have HOWN := Lib.hid hown
    have HG := Lib.hid hg
    have HBX := Lib.hid hB
    have HNS := Lib.hid hin
    have HND := Lib.hid hnd
    clear hrg hown hg hB hin hnd
    go_wp2_with (at_next; refine wpList_next_mp2 _ rfl (.tmp 7) rfl 29 nameLaw (fun p : Nm × Option Addr × Nat => p.1.v) (mkT l) (fun p => p.1.lit) (fun p => p.1.ok ∧ p.1 ∈ l.map Sn.n) m (w.heap.size + 1) f left gk HSH.out rfl HRG.out ?done ?more)
    case done =>
      intro hl0
      have hmem : ∀ n, n ∈ ns ↔ (tk l n).d = true := fun n => by
        rw [HNS.out n]
        constructor
        · exact fun h => h.2.2.1
        · intro hd
          have h1 := (mem_decL HC.out n).2 hd
          unfold decL at h1
          obtain ⟨x, hx, rfl⟩ := List.mem_map.1 h1
          have hx' := (List.mem_filter.1 hx).1
          exact ⟨H.out.ok x hx', List.mem_map.2 ⟨x, hx', rfl⟩, hd, hl0 _⟩
      have HFIN := Lib.hid (dec_unique HC.out HND.out hmem)
      have HOKN : Hid (∀ n ∈ ns, n.ok) := Lib.hid (fun n hn => ((HNS.out n).1 hn).1)
      have HLEN : Hid (ns.length ≤ 1000000) := Lib.hid (by
        have := nodup_le ns (l.map Sn.n) HND.out (fun y hy => ((HNS.out y).1 hy).2.1)
        rw [List.length_map] at this
        have := HL.out
        omega)
      have HTR := Lib.hid (H.out.grows HG.out)
      clear hl0 hmem
      by_cases hnil : ns = []
      · subst hnil
        have e0 : decL l = [] := (HFIN.out [] (List.Perm.refl _) List.Pairwise.nil).symm
        obtain ⟨a, c, rfl, _⟩ := own_slice HOWN.out
        have HE := Lib.hid e0
        clear e0
        go_wp2_with fail
        refine (AnyF.slices_SortFunc_none sortNm a c _ _).mono ?_
        rintro e w2 ⟨rfl, rfl⟩
        go_wp2_with fail
        go_ret
        rw [HE.out]
        exact ⟨a, c, rfl, Rd.nil _ _, Nat.zero_le _, HG.out, fun b off e => by subst e; exact (HOWN.out.lt b rfl).1⟩
      · have hpos : 0 < ns.length := List.length_pos_iff.2 hnil
        rcases HOWN.out.2 with ⟨_, h0⟩ | ⟨g, cap, cur, rfl, hg0, hcur, hcap, _, _⟩
        · omega
        have HPOS := Lib.hid hpos
        have HGE := Lib.hid hg0
        have HCAP := Lib.hid hcap
        clear hnil hpos hg0 hcur hcap
        go_wp2_with fail
        refine (sort_any HTR.out HBX.out ns HOKN.out HOWN.out HLEN.out).mono ?_
        rintro e w2 ⟨rfl, ns', hp, hs, hrd, hT⟩
        have he := HFIN.out ns' hp hs
        subst he
        have HP := Lib.hid hp.length_eq
        have HRD := Lib.hid hrd
        have HG2 := Lib.hid (hT.low HG.out (fun i hi => by rw [hi]; exact HGE.out))
        clear hp hs hrd hT
        go_wp2_with fail
        go_ret
        exact ⟨some ⟨g, 0, none⟩, cap, by rw [HP.out]; rfl, HRD.out, by rw [HP.out]; exact HCAP.out, HG2.out, fun b off e => by injection e with e; injection e with e; subst e; exact HGE.out⟩
    case more =>
      intro x ax cx' w1 cnt' hxo y hy hyx hlx hrg1 hlt1 hgr1 hs1 hen1
      have hGx : x.ok ∧ x ∈ l.map Sn.n := ⟨hxo, List.mem_map.2 ⟨y, hy, hyx⟩⟩
      have hown1 := own_keep HOWN.out (w1 := w1) (fun b hb => hgr1.block b (own_typed HOWN.out hb).choose_spec.2.2 (fun e => HRG.out.apart HOWN.out (by rw [hb, e])))
      have hsz := HBX.out.lt
      have hg1 : Grows w w1 := ⟨hgr1.os.trans HG.out.os, hgr1.tape.trans HG.out.tape, hgr1.output.trans HG.out.output, Nat.le_trans HG.out.size hgr1.size, fun i hi => (hgr1.block i (Nat.lt_of_lt_of_le hi HG.out.size) (fun e => by injection e with e; omega)).trans (HG.out.block i hi)⟩
      have hB1 : At w1 w.heap.size 80 #[.map (some m)] := (hgr1.block _ hsz (fun e => by injection e with e; omega)).trans HBX.out
      have HOWN1 := Lib.hid hown1
      have HG1 := Lib.hid hg1
      have HB1 := Lib.hid hB1
      have HRG1 := Lib.hid hrg1
      have HGX := Lib.hid hGx
      have HLX := Lib.hid hlx
      have HLT := Lib.hid hlt1
      unfold mkT Tk.cs Nm.v at hen1
      simp only at hen1
      clear hown1 hsz hg1 hB1 hrg1 hGx hlx hlt1 hgr1 hs1
      unfold mkT Tk.cs Nm.v
      simp only
      have HLEFT : Hid (∀ n : Nm, n.ok → ((left n.lit && !n.lit.sameKey x.lit) = false ↔ (left n.lit = false ∨ n = x))) := fun n hn => by
        by_cases e : n = x
        · subst e; rw [lit_same hn]; simp
        · rw [lit_other hn HGX.out.1 e]; simp [e]
      have HXN : Hid (x ∉ ns) := fun e => by
        have := ((HNS.out x).1 e).2.2.2
        rw [HLX.out] at this
        cases this
      cases hd : (tk l x).d
      · have HD := Lib.hid hd
        go_wp2_with fail
        go_roundg cnt'
        case measure => exact HLT.out
        case rel =>
          refine ⟨_, ns, HRG1.out.grows (((Grows.refl _).alloc _).alloc _), own_grows HOWN1.out (((Grows.refl _).alloc _).alloc _), (HG1.out.alloc _).alloc _, (HB1.out.alloc _).alloc _, fun n => ?_, HND.out⟩
          rw [HNS.out n]
          constructor
          · rintro ⟨h1, h2, h3, h4⟩
            exact ⟨h1, h2, h3, (HLEFT.out n h1).2 (.inl h4)⟩
          · rintro ⟨h1, h2, h3, h4⟩
            rcases (HLEFT.out n h1).1 h4 with h | h
            · exact ⟨h1, h2, h3, h⟩
            · subst h; rw [HD.out] at h3; cases h3
      · have HD := Lib.hid hd
        have hlen : ns.length ≤ l.length := by
          have := nodup_le ns (l.map Sn.n) HND.out (fun y hy => ((HNS.out y).1 hy).2.1)
          rwa [List.length_map] at this
        have HLEN := Lib.hid hlen
        clear hlen
        go_wp2_with (at_builtin; (refine wpList_append_rd _ rfl (.tmp 15) (.tmp 17) 49 rfl w.heap.size 29 i0 (.agg #[.int .i64 0, .int .i64 0, .int .i64 0]) 3 24 Try.underlying49 hi0 hz0 hz1 hz2 rfl (by decide) u3 ns.length (rowsOf Nm.cs ns) rfl (own_grows HOWN1.out ((((Grows.refl _).alloc _).alloc _).alloc _)) (some ⟨w1.heap.size + 1 + 1, 0, none⟩) 1 1 x.cs rfl ?rd rfl (nms_one [x]) (by have h1 := HLEN.out; have h2 := HL.out; unfold maxLen; omega) (by have h1 := HLEN.out; have h2 := HL.out; omega) (by have := HG1.out.size; simp; omega) ?app))
        case rd =>
          have := rd_new ((w1.alloc (.cells #[.int .i64 x.s, .int .i64 x.i, .int .i64 x.t] 29)).alloc (.cells #[.bool (tk l x).b, .bool (tk l x).c, .bool (tk l x).a, .bool true, .int .i64 (tk l x).p, .slice ax (st l x).length cx'] 90)) #[.int .i64 x.s, .int .i64 x.i, .int .i64 x.t] 29 (0, 0)
          rw [World.size_alloc, World.size_alloc] at this
          exact this
        case app =>
          intro v4 w4 hown4 hgr4 hat4
          have hG3 : Grows w1 (((w1.alloc (.cells #[.int .i64 x.s, .int .i64 x.i, .int .i64 x.t] 29)).alloc (.cells #[.bool (tk l x).b, .bool (tk l x).c, .bool (tk l x).a, .bool true, .int .i64 (tk l x).p, .slice ax (st l x).length cx'] 90)).alloc (.cells #[.int .i64 x.s, .int .i64 x.i, .int .i64 x.t] 29)) := (((Grows.refl _).alloc _).alloc _).alloc _
          have hkeep : ∀ i, i < w1.heap.size → u3.ownBlock ≠ some i → w4.heap[i]? = w1.heap[i]? := fun i hi hn => (hgr4.block i (Nat.lt_of_lt_of_le hi hG3.size) (fun e => hn e.symm)).trans (hG3.block i hi)
          obtain ⟨esm, clm, hbm⟩ := HRG1.out.mp.block
          have hRg4 := HRG1.out.same (w' := w4) (hkeep m HRG1.out.mp.lt (fun e => by
            obtain ⟨cur, q, _⟩ := own_typed HOWN1.out e
            rw [hbm] at q
            cases q)) (hkeep _ HRG1.out.lt (HRG1.out.apart HOWN1.out))
          have hB4 : At w4 w.heap.size 80 #[.map (some m)] := (hkeep _ HB1.out.lt (own_apart HOWN1.out HB1.out (by decide))).trans HB1.out
          have hG4 : Grows w w4 := ⟨hgr4.os.trans (hG3.os.trans HG1.out.os), hgr4.tape.trans (hG3.tape.trans HG1.out.tape), hgr4.output.trans (hG3.output.trans HG1.out.output), Nat.le_trans HG1.out.size (Nat.le_trans hG3.size hgr4.size), fun i hi => (hkeep i (Nat.lt_of_lt_of_le hi HG1.out.size) (fun e => by
            obtain ⟨_, _, q, _⟩ := own_typed HOWN1.out e
            omega)).trans (HG1.out.block i hi)⟩
          have HR4 := Lib.hid hRg4
          have HB4 := Lib.hid hB4
          have HG4 := Lib.hid hG4
          have HO4 := Lib.hid hown4
          clear hG3 hkeep hbm hRg4 hB4 hG4 hown4 hgr4 hat4
          go_wp2_with fail
          go_roundg cnt'
          case measure => exact HLT.out
          case rel =>
            refine ⟨_, ns ++ [x], HR4.out, ?_, HG4.out, HB4.out, fun n => ?_, ?_⟩
            · rw [List.length_append, rows_append, rows_one]; exact HO4.out
            · rw [List.mem_append, List.mem_singleton, HNS.out n]
              constructor
              · rintro (⟨h1, h2, h3, h4⟩ | rfl)
                · exact ⟨h1, h2, h3, (HLEFT.out n h1).2 (.inl h4)⟩
                · exact ⟨HGX.out.1, HGX.out.2, HD.out, (HLEFT.out n HGX.out.1).2 (.inr rfl)⟩
              · rintro ⟨h1, h2, h3, h4⟩
                rcases (HLEFT.out n h1).1 h4 with h | h
                · exact .inl ⟨h1, h2, h3, h⟩
                · exact .inr h
            · rw [List.nodup_append]
              exact ⟨HND.out, by simp, fun a ha b hb e => HXN.out (by rw [List.mem_singleton.1 hb] at e; rw [← e]; exact ha)⟩
end Go.Proofs.Ytfigoeoimefngaa

/-
  order.Order, order.May.
-/
namespace Go.Proofs.Ytfigoeoimefngaa
open Go.RowKit Go.Maps

def OrdP (L : List Sn) (w : World) (e : Ending) (w' : World) : Prop :=
  Grows w w' ∧ ((mayB L = false ∧ e = .returned (.tuple #[.slice none 0 0, .int .i64 2])) ∨
    (mayB L = true ∧ ∃ a c, e = .returned (.tuple #[.slice a (decL L).length c, .int .i64 0]) ∧ Rd w' a (rowsOf Nm.cs (decL L)) ∧ (decL L).length ≤ c))
theorem order_p (L : List Sn) (n : Nat) (hn : L.length = n) (hL : n ≤ 1000000) (hok : ∀ x ∈ L, x.n.ok) (a : Option Addr) (cap : Nat) (w : World) (hr : Rd w a (rowsOf Sn.cs L)) :
    Calls Try.prog 34 #[.slice a n cap] w (OrdP L w) := by
  have HT := Lib.hid (tracks_any L n hn hL hok a cap w hr)
  have HL : Hid (L.length ≤ 1000000) := Lib.hid (by omega)
  clear hn hL hok hr
  go_enter Try.func34, Try.ntmps34
  go_wp2_with fail
  refine HT.out.mono ?_
  rintro e w1 ⟨hg, ⟨hm, rfl⟩ | ⟨hm, m, V, rfl, hT⟩⟩
  · have HG := Lib.hid hg
    have HM := Lib.hid hm
    clear hg hm
    go_wp2_with fail
    go_ret2
    exact ⟨HG.out, .inl ⟨HM.out, rfl⟩⟩
  · have HG := Lib.hid hg
    have HM := Lib.hid hm
    have HD := Lib.hid (decided_any hT HL.out (com_at L hm))
    clear hg hm hT
    go_wp2_with fail
    refine HD.out.mono ?_
    rintro e w2 ⟨a', c', rfl, hr', hc', hg', _⟩
    have HR := Lib.hid hr'
    have HC := Lib.hid hc'
    have HG2 := Lib.hid (HG.out.trans hg')
    clear hr' hc' hg'
    go_wp2_with fail
    go_ret2
    exact ⟨HG2.out, .inr ⟨HM.out, a', c', rfl, HR.out, HC.out⟩⟩
theorem order_no (L : List Sn) (n : Nat) (hn : L.length = n) (hL : n ≤ 1000000) (hok : ∀ x ∈ L, x.n.ok) (a : Option Addr) (cap : Nat) (w : World) (hr : Rd w a (rowsOf Sn.cs L)) (hm : mayB L = false) :
    Calls Try.prog 34 #[.slice a n cap] w fun e w' => e = .returned (.tuple #[.slice none 0 0, .int .i64 2]) ∧ Grows w w' := by
  refine (order_p L n hn hL hok a cap w hr).mono ?_
  rintro e w' ⟨hg, ⟨_, rfl⟩ | ⟨h, _⟩⟩
  · exact ⟨rfl, hg⟩
  · rw [hm] at h; cases h
theorem order_yes (L : List Sn) (n : Nat) (hn : L.length = n) (hL : n ≤ 1000000) (hok : ∀ x ∈ L, x.n.ok) (a : Option Addr) (cap : Nat) (w : World) (hr : Rd w a (rowsOf Sn.cs L)) (hm : mayB L = true) :
    Calls Try.prog 34 #[.slice a n cap] w fun e w' => ∃ a c, e = .returned (.tuple #[.slice a (decL L).length c, .int .i64 0]) ∧ Rd w' a (rowsOf Nm.cs (decL L)) ∧ (decL L).length ≤ c ∧ Grows w w' := by
  refine (order_p L n hn hL hok a cap w hr).mono ?_
  rintro e w' ⟨hg, ⟨h, _⟩ | ⟨_, a', c', rfl, h1, h2⟩⟩
  · rw [hm] at h; cases h
  · exact ⟨a', c', rfl, h1, h2, hg⟩
end Go.Proofs.Ytfigoeoimefngaa

/-
  Plain: the heads of a history; names matched in order.
-/
namespace Go.Proofs.Ytfigoeoimefngaa
open Go.RowKit

theorem mayB_take {l : List Sn} (h : mayB l = true) (k : Nat) : mayB (l.take k) = true := by
  unfold mayB at *
  rw [List.all_eq_true] at *
  intro i hi
  have hi' := List.mem_range.1 hi
  rw [List.length_take] at hi'
  have h1 := h i (List.mem_range.2 (by omega))
  unfold okAt at *
  rw [List.getElem?_take_of_lt (by omega), List.take_take, show min i k = i by omega]
  exact h1
theorem tkA_d (n : Nm) : ∀ (l : List Sn) (i : Nat) (t : Tk), t.d = true → (tkA n i l t).d = true
  | [], _, _, h => h
  | x :: l, i, t, h => by
    rw [tkA]
    refine tkA_d n l _ _ ?_
    split
    · rw [nxt_d, h]; rfl
    · exact h
theorem tkA_append (n : Nm) : ∀ (l l' : List Sn) (i : Nat) (t : Tk), tkA n i (l ++ l') t = tkA n (i + l.length) l' (tkA n i l t)
  | [], _, _, _ => by simp [tkA]
  | x :: l, l', i, t => by
    rw [List.cons_append, tkA, tkA_append n l l', tkA, List.length_cons, show i + 1 + l.length = i + (l.length + 1) by omega]
theorem tk_d_take {l : List Sn} {k : Nat} {n : Nm} (h : (tk (l.take k) n).d = true) : (tk l n).d = true := by
  have e : l = l.take k ++ l.drop k := (List.take_append_drop k l).symm
  rw [e]
  unfold tk at *
  rw [tkA_append]
  exact tkA_d n _ _ _ h
theorem filter_sub {α : Type} (p q : α → Bool) : ∀ l : List α, (∀ x ∈ l, p x = true → q x = true) → (l.filter p).Sublist (l.filter q)
  | [], _ => List.Sublist.refl _
  | x :: l, h => by
    have ih := filter_sub p q l fun y hy => h y (by simp [hy])
    rw [List.filter_cons, List.filter_cons]
    by_cases hp : p x = true
    · rw [if_pos hp, if_pos (h x (by simp) hp)]; exact ih.cons_cons _
    · rw [if_neg hp]
      split
      · exact ih.cons _
      · exact ih
theorem decL_take (l : List Sn) (k : Nat) : (decL (l.take k)).Sublist (decL l) := by
  unfold decL
  refine List.Sublist.map _ (List.Sublist.trans ?_ (List.Sublist.filter _ (List.take_sublist k l)))
  refine filter_sub _ _ _ fun x _ hx => ?_
  rw [Bool.and_eq_true] at hx ⊢
  exact ⟨hx.1, tk_d_take hx.2⟩
/-- How far a is matched by b's first ones, from at on. -/
def mat (a : List Nm) : List Nm → Nat → Nat
  | [], at_ => at_
  | x :: b, at_ => mat a b (if a[at_]? = some x then at_ + 1 else at_)
theorem mat_snoc (a : List Nm) (x : Nm) : ∀ (b : List Nm) (i : Nat), mat a (b ++ [x]) i = if a[mat a b i]? = some x then mat a b i + 1 else mat a b i
  | [], _ => rfl
  | y :: b, i => by rw [List.cons_append, mat, mat_snoc a x b, mat]
theorem mat_le (a : List Nm) : ∀ (b : List Nm) (i : Nat), i ≤ a.length → mat a b i ≤ a.length
  | [], _, h => h
  | x :: b, i, h => by
    rw [mat]
    refine mat_le a b _ ?_
    split
    · rename_i h1
      exact (List.getElem?_eq_some_iff.1 h1).1
    · exact h
theorem mat_full (a : List Nm) : ∀ (b : List Nm) (i : Nat), i ≤ a.length → (a.drop i).Sublist b → mat a b i = a.length
  | [], i, h, hs => by
    have := List.drop_eq_nil_iff.1 (List.sublist_nil.1 hs)
    rw [mat]; omega
  | x :: b, i, h, hs => by
    rw [mat]
    by_cases hi : i < a.length
    · rw [List.drop_eq_getElem_cons hi] at hs
      by_cases he : a[i]? = some x
      · rw [if_pos he]
        refine mat_full a b _ hi ?_
        rw [List.getElem?_eq_getElem hi] at he
        injection he with he
        cases hs with
        | cons _ h2 => exact (List.sublist_cons_self _ _).trans h2
        | cons_cons _ h2 => exact h2
      · rw [if_neg he]
        refine mat_full a b _ h ?_
        rw [List.drop_eq_getElem_cons hi]
        rw [List.getElem?_eq_getElem hi] at he
        cases hs with
        | cons _ h2 => exact h2
        | cons_cons _ h2 => exact absurd rfl he
    · have hn : a[i]? ≠ some x := by rw [List.getElem?_eq_none (by omega)]; simp
      rw [if_neg hn]
      refine mat_full a b _ h ?_
      rw [List.drop_eq_nil_iff.2 (by omega)]
      exact List.nil_sublist _
end Go.Proofs.Ytfigoeoimefngaa

/-
  The law's commits, answered.
-/
namespace Go.Proofs.Ytfigoeoimefngaa
open Go.RowKit Go.Maps

theorem ksNm : flatQ Try.prog 2 29 = some [some .i64, some .i64, some .i64] := by kernel_rfl
set_option maxRecDepth 100000 in
theorem eqn_any (W : World) (x y : Nm) : (Op.equalIn 10000 29 (.agg #[.int .i64 x.s, .int .i64 x.i, .int .i64 x.t]) (.agg #[.int .i64 y.s, .int .i64 y.i, .int .i64 y.t])).run Try.prog W = .ok (decide (x = y)) W := by
  have hx : OfKinds [some .i64, some .i64, some .i64] [.int .i64 x.s, .int .i64 x.i, .int .i64 x.t] := ⟨⟨_, rfl⟩, ⟨_, rfl⟩, ⟨_, rfl⟩, trivial⟩
  have hy : OfKinds [some .i64, some .i64, some .i64] [.int .i64 y.s, .int .i64 y.i, .int .i64 y.t] := ⟨⟨_, rfl⟩, ⟨_, rfl⟩, ⟨_, rfl⟩, trivial⟩
  have := eq_flat_agg (P := Try.prog) W 2 29 _ ksNm (by omega) (fun _ => rfl) _ _ hx hy
  have he : cellsEq [.int .i64 x.s, .int .i64 x.i, .int .i64 x.t] [.int .i64 y.s, .int .i64 y.i, .int .i64 y.t] = decide (x = y) := by
    rw [Bool.eq_iff_iff, cellsEq_iff hx hy, decide_eq_true_eq]
    cases x
    cases y
    simp
  rw [he] at this
  exact this
end Go.Proofs.Ytfigoeoimefngaa

/-
  Plain: each step of a history that may be.
-/
namespace Go.Proofs.Ytfigoeoimefngaa
open Go.RowKit

theorem may_okAt {l : List Sn} (h : mayB l = true) {i : Nat} {x : Sn} (hx : l[i]? = some x) : namedB x.n = true ∧ okS x (tk (l.take i) x.n) = true := by
  unfold mayB at h
  rw [List.all_eq_true] at h
  have := h i (List.mem_range.2 (List.getElem?_eq_some_iff.1 hx).1)
  unfold okAt at this
  rw [hx] at this
  simpa using this
end Go.Proofs.Ytfigoeoimefngaa

/-
  Plain: what a replay comes to, block by block.
-/
namespace Go.Proofs.Ytfigoeoimefngaa
open Go.RowKit Go.Maps

def ivs (l : List Int) : List Value := l.map (Value.int .u8)
theorem ivs_len (l : List Int) : (ivs l).length = l.length := List.length_map _
theorem ivs_spl (a : List Int) (o : Nat) (b : List Int) : ivs (spl a o b) = spl (ivs a) o (ivs b) := spl_map _ _ _ _
theorem Sn.val_len (x : Sn) : x.val.length = 8 := rfl
def zer256 : List Int := List.replicate 256 0
theorem zer256_len : zer256.length = 256 := List.length_replicate
/-- A step on the blocks. -/
def wrt (s : List Int) (x : Sn) : List Int := if x.k = 2 then spl s (x.b.toNat * 8) x.val else s
def rstep (L : List Sn) (s : List Int) (p : Int × Nat) : List Int := match L[p.2]? with | some x => wrt s x | none => s
def rname (L : List Sn) (s : List Int) (n : Nm) : List Int := (st L n).foldl (rstep L) s
def repl (L : List Sn) : List Int := (decL L).foldl (rname L) zer256
def blk (s : List Int) (b : Nat) : List Int := (s.drop (b * 8)).take 8
/-- The steps of a history that may be stand where they stand. -/
structure StOk (L : List Sn) (n : Nm) (p : Int × Nat) (x : Sn) : Prop where
  at_ : L[p.2]? = some x
  blk : p.1 = x.b
  nm : x.n = n
  rw : rwB x = true
  lo : 0 ≤ x.b
  hi : x.b < 32
theorem st_mem {L : List Sn} {n : Nm} {p : Int × Nat} (h : p ∈ st L n) : ∃ x, L[p.2]? = some x ∧ p.1 = x.b ∧ x.n = n ∧ rwB x = true := by
  have key : ∀ (l : List Sn) (i : Nat), p ∈ stA n i l → ∃ x, i ≤ p.2 ∧ l[p.2 - i]? = some x ∧ p.1 = x.b ∧ x.n = n ∧ rwB x = true := by
    intro l
    induction l with
    | nil => intro i h; simp [stA] at h
    | cons y l ih =>
      intro i h
      rw [stA, List.mem_append] at h
      rcases h with h | h
      · by_cases hc : y.n = n ∧ rwB y = true
        · rw [if_pos hc, List.mem_singleton] at h
          subst h
          exact ⟨y, Nat.le_refl _, by simp, rfl, hc.1, hc.2⟩
        · rw [if_neg hc] at h; cases h
      · obtain ⟨x, h1, h2, h3⟩ := ih (i + 1) h
        exact ⟨x, by omega, by rw [show p.2 - i = (p.2 - (i + 1)) + 1 by omega]; simpa using h2, h3⟩
  obtain ⟨x, _, h2, h3⟩ := key L 0 h
  exact ⟨x, by simpa using h2, h3⟩
theorem st_ok {L : List Sn} (hm : mayB L = true) {n : Nm} {p : Int × Nat} (h : p ∈ st L n) : ∃ x, StOk L n p x := by
  obtain ⟨x, h1, h2, h3, h4⟩ := st_mem h
  have := (may_okAt hm h1).2
  have h0 : x.k ≠ 0 := by intro e; simp [rwB, e] at h4
  unfold okS at this
  rw [if_neg h0, h4] at this
  simp at this
  exact ⟨x, h1, h2, h3, h4, this.2.1.2, this.2.2⟩
theorem wrt_len {s : List Int} {x : Sn} (h : s.length = 256) (h0 : 0 ≤ x.b) (h1 : x.b < 32) : (wrt s x).length = 256 := by
  unfold wrt
  split
  · rw [spl_length _ _ _ (by rw [x.val_len]; omega), h]
  · exact h
theorem fold_len {L : List Sn} (hm : mayB L = true) {n : Nm} : ∀ (ps : List (Int × Nat)) (s : List Int), (∀ p ∈ ps, p ∈ st L n) → s.length = 256 → (ps.foldl (rstep L) s).length = 256
  | [], _, _, h => h
  | p :: ps, s, hp, h => by
    rw [List.foldl_cons]
    refine fold_len hm ps _ (fun q hq => hp q (by simp [hq])) ?_
    obtain ⟨x, hx⟩ := st_ok hm (hp p (by simp))
    unfold rstep
    rw [hx.at_]
    exact wrt_len h hx.lo hx.hi
theorem rname_len {L : List Sn} (hm : mayB L = true) (n : Nm) (s : List Int) (h : s.length = 256) : (rname L s n).length = 256 := fold_len hm _ _ (fun _ h => h) h
theorem repls_len {L : List Sn} (hm : mayB L = true) : ∀ (ns : List Nm) (s : List Int), s.length = 256 → (ns.foldl (rname L) s).length = 256
  | [], _, h => h
  | n :: ns, s, h => by rw [List.foldl_cons]; exact repls_len hm ns _ (rname_len hm n s h)
theorem fold_snoc {α β : Type} (f : β → α → β) (l : List α) (k : Nat) (h : k < l.length) (s : β) : (l.take (k + 1)).foldl f s = f ((l.take k).foldl f s) l[k] := by
  rw [List.take_add_one, List.getElem?_eq_getElem h]
  show (l.take k ++ [l[k]]).foldl f s = _
  rw [List.foldl_append]
  rfl
theorem blk_spl {s : List Int} (hs : s.length = 256) {b c : Nat} (hb : b < 32) (hc : c < 32) (v : List Int) (hv : v.length = 8) : blk (spl s (b * 8) v) c = if b = c then v else blk s c := by
  unfold blk
  apply List.ext_getElem?
  intro i
  by_cases hi : i < 8
  · rw [List.getElem?_take_of_lt hi, List.getElem?_drop, spl_get _ _ _ (by omega), hv]
    by_cases h : b = c
    · subst h
      rw [if_neg (by omega), if_pos (by omega), if_pos rfl]
      congr 1
      omega
    · rw [if_neg h, List.getElem?_take_of_lt hi, List.getElem?_drop]
      by_cases h1 : c * 8 + i < b * 8
      · rw [if_pos h1]
      · rw [if_neg h1, if_neg (by omega)]
  · rw [List.getElem?_eq_none (by rw [List.length_take]; omega)]
    by_cases h : b = c
    · rw [if_pos h, List.getElem?_eq_none (by omega)]
    · rw [if_neg h, List.getElem?_eq_none (by rw [List.length_take]; omega)]
-- the law's own loop
def lwB (n : Nm) (c : Int) (x : Sn) : Bool := x.k == 2 && decide (x.n = n) && x.b == c
def lname (L : List Sn) (c : Int) (n : Nm) (v : List Int) : List Int := L.foldl (fun v x => if lwB n c x then x.val else v) v
def lall (L : List Sn) (c : Int) (ns : List Nm) (v : List Int) : List Int := ns.foldl (fun v n => lname L c n v) v
theorem lname_eq {L : List Sn} (hm : mayB L = true) (c : Nat) (hc : c < 32) (n : Nm) (s : List Int) (hs : s.length = 256) : blk (rname L s n) c = lname L c n (blk s c) := by
  have key : ∀ (l : List Sn) (i : Nat) (s : List Int), s.length = 256 → (∀ j, l[j]? = L[i + j]?) →
      blk ((stA n i l).foldl (rstep L) s) c = l.foldl (fun v x => if lwB n c x then x.val else v) (blk s c) := by
    intro l
    induction l with
    | nil => intro i s _ _; rfl
    | cons y l ih =>
      intro i s hs hl
      have hy : L[i]? = some y := by have := hl 0; simpa using this.symm
      have hl' : ∀ j, l[j]? = L[i + 1 + j]? := fun j => by
        have := hl (j + 1)
        rw [List.getElem?_cons_succ] at this
        rw [this]
        congr 1
        omega
      rw [stA, List.foldl_append, List.foldl_cons]
      by_cases hr : y.n = n ∧ rwB y = true
      · rw [if_pos hr]
        have hok := (may_okAt hm hy).2
        have h0 : y.k ≠ 0 := by intro e; have := hr.2; simp [rwB, e] at this
        unfold okS at hok
        rw [if_neg h0, hr.2] at hok
        simp at hok
        have e1 : [(y.b, i)].foldl (rstep L) s = wrt s y := by
          show rstep L s (y.b, i) = _
          unfold rstep
          simp only
          rw [hy]
        rw [e1, ih (i + 1) _ (wrt_len hs hok.2.1.2 hok.2.2) hl']
        congr 1
        unfold wrt lwB
        by_cases h2 : y.k = 2
        · rw [if_pos h2, blk_spl hs (by omega) hc _ y.val_len]
          by_cases hb : y.b = (c : Int)
          · rw [if_pos (by omega)]; simp [h2, hr.1, hb]
          · rw [if_neg (by omega)]; simp [h2, hr.1, hb]
        · rw [if_neg h2]; simp [h2]
      · rw [if_neg hr, List.foldl_nil, ih (i + 1) s hs hl']
        congr 1
        have : lwB n c y = false := by
          unfold lwB
          by_cases h2 : y.k = 2
          · have hn : y.n ≠ n := fun e => hr ⟨e, by simp [rwB, h2]⟩
            simp [h2, hn]
          · simp [h2]
        rw [this]
        rfl
  exact key L 0 s hs fun j => by rw [Nat.zero_add]
theorem lall_eq {L : List Sn} (hm : mayB L = true) (c : Nat) (hc : c < 32) : ∀ (ns : List Nm) (s : List Int), s.length = 256 → blk (ns.foldl (rname L) s) c = lall L c ns (blk s c)
  | [], _, _ => rfl
  | n :: ns, s, hs => by
    rw [List.foldl_cons, lall_eq hm c hc ns _ (rname_len hm n s hs), lname_eq hm c hc n s hs]
    rfl
theorem blk_zer (c : Nat) (hc : c < 32) : blk zer256 c = List.replicate 8 0 := by
  unfold blk zer256
  rw [List.drop_replicate, List.take_replicate]
  congr 1
  omega
theorem last_eq {L : List Sn} (hm : mayB L = true) (c : Nat) (hc : c < 32) : blk (repl L) c = lall L c (decL L) (List.replicate 8 0) := by
  unfold repl
  rw [lall_eq hm c hc _ _ zer256_len, blk_zer c hc]
theorem fl_int : ∀ z : Nat, z < 400 → floatToIntVal .f64 (fl (z : Int)) .i64 = some (z : Int) := by decide +kernel
end Go.Proofs.Ytfigoeoimefngaa
