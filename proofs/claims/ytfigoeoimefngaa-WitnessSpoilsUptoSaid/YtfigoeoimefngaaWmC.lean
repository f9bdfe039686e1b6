/-
  witness.Count.
-/
import Derived.Test.YtfigoeoimefngaaWmB
import Derived.Test.YtfigoeoimefngaaWkA
namespace Go.Proofs.Ytfigoeoimefngaa
open Go.RowKit Go.Maps Go.Shelf
attribute [local go_sem] Oper.semAt_some

/-- How many faults there are of a kind. -/
def kc (fs : List Ft) (j : Int) : Int := ((fs.filter fun f => f.k = j).length : Int)
def kcs (fs : List Ft) : List Int := [kc fs 0, kc fs 1, kc fs 2, kc fs 3, kc fs 4]
def civ (l : List Int) : List Value := l.map (Value.int .i64)
theorem kc_more {fs : List Ft} {k : Nat} {f : Ft} (h : fs[k]? = some f) (j : Int) : kc (fs.take (k + 1)) j = if f.k = j then kc (fs.take k) j + 1 else kc (fs.take k) j := by
  unfold kc
  rw [List.take_add_one, h]
  simp only [Option.toList_some, List.filter_append, List.length_append]
  by_cases hj : f.k = j <;> simp [hj]
theorem kc_le (fs : List Ft) (k : Nat) (j : Int) : 0 ≤ kc (fs.take k) j ∧ kc (fs.take k) j ≤ (fs.length : Int) := by
  unfold kc
  have h1 := List.length_filter_le (fun f : Ft => decide (f.k = j)) (fs.take k)
  have h2 : (fs.take k).length ≤ fs.length := by rw [List.length_take]; omega
  omega
theorem Ft.cs_k {f : Ft} (h : f.ok) : f.cs.toArray[27]? = some (.int .i8 f.k) := by
  obtain ⟨p, x, b, want, got, sh, y, k⟩ := f
  obtain ⟨w0, w1, w2, w3, w4, w5, w6, w7, rfl⟩ := eight_of h.want
  obtain ⟨g0, g1, g2, g3, g4, g5, g6, g7, rfl⟩ := eight_of h.got
  rfl
theorem Turns.kp {O O' : Nat → Prop} {w W W' : World} {b : Nat} {O2 : Nat → Prop} (h : Turns O w W O') (hb : w.heap.size ≤ b) (hk : Kp b O2 W W') : Turns O w W' O' :=
  ⟨hk.os.trans h.os, hk.tape.trans h.tape, hk.output.trans h.output, Nat.le_trans h.size hk.size, fun i hi ho => (hk.block i (Nat.lt_of_lt_of_le hi h.size) (.inl (by omega))).trans (h.block i hi ho), h.own⟩
theorem Turns.weak {O O' : Nat → Prop} {w W : World} (h : Turns O w W O') : Turns O w W (fun _ => False) := ⟨h.os, h.tape, h.output, h.size, h.block, fun _ h => h.elim⟩
theorem Vw.turns {O O' : Nat → Prop} {w W : World} {L : List Sn} {r : Nat} {V : Nm → Value} (h : Vw w L r V) (hT : Turns O w W O') (hO : ∀ i, O i → i < r) : Vw W L r V := by
  have hb : ∀ i, i < w.heap.size → r ≤ i → W.heap[i]? = w.heap[i]? := fun i hi hr => hT.block i hi (fun ho => by have := hO i ho; omega)
  refine ⟨h.rank.same (hb _ h.rank.lt (Nat.le_refl _)), h.steps.same (hb _ h.steps.map.lt (by omega)) (fun n b hn => ?_), h.was.same (hb _ h.was.lt (by omega))⟩
  obtain ⟨_, _, h2, h3⟩ := own_typed (h.steps.row n) hn
  exact hb b h3 h2
/-- The names that were decided lie in no block of noughts. -/
theorem names_far {w : World} {L : List Sn} (hm : mayB L = true) {a' : Option Addr} (h : Rd w a' (rowsOf Nm.cs (decL L))) {g : Nat} {t : TypeId} {cs : Array Value} (hA : At w g t cs) (hz : ∀ (i : Nat) (v : Value), cs[i]? = some v → v = Value.int .i64 0) :
    decL L = [] ∨ ∀ off, a' ≠ some ⟨g, off, none⟩ := by
  cases hd : decL L with
  | nil => exact .inl rfl
  | cons n l =>
    right
    rintro off rfl
    rw [hd, rows_cons] at h
    have hn : namedB n = true := by
      have hmem : n ∈ decL L := by rw [hd]; simp
      obtain ⟨x, hx, rfl⟩ := dec_in hmem
      obtain ⟨p, hp, he⟩ := List.getElem_of_mem hx
      exact (may_okAt hm (show L[p]? = some x by rw [List.getElem?_eq_getElem hp, he])).1
    obtain ⟨b, o, e, hb, hc⟩ := h.at (show 0 < (n.cs ++ rowsOf Nm.cs l).length by simp [Nm.cs])
    injection e with e
    injection e with e1 e2
    subst e1
    have h1 := hc 0 (by simp [Nm.cs])
    rw [hA.cell] at h1
    have h2 := hz _ _ h1
    have h3 : (n.cs ++ rowsOf Nm.cs l)[0]'(by simp [Nm.cs]) = .int .i64 n.s := rfl
    rw [h3] at h2
    injection h2 with _ h2
    simp [namedB, wi, h2] at hn
theorem names_turns {O O' : Nat → Prop} {w W : World} {L : List Sn} {a' : Option Addr} (h : Rd w a' (rowsOf Nm.cs (decL L))) (hT : Turns O w W O') (hO : ∀ i, O i → decL L = [] ∨ ∀ off, a' ≠ some ⟨i, off, none⟩) : Rd W a' (rowsOf Nm.cs (decL L)) := by
  by_cases hd : decL L = []
  · rw [hd]; exact Rd.nil _ _
  · exact hT.rd h (fun b off e ho => by
      rcases hO b ho with h1 | h1
      · exact hd h1
      · exact h1 off e)
theorem results_count {P : Program} {fn : Func} {p q r t : Tmp} {ty tz : TypeId} {k : IntKind} (h : fn.results = #[.cell p ty, .cell q ty, .cell r tz, .tmp t]) (tmps : Array Value) (w : World) (g0 g1 g2 : Nat) (T0 T2 : TypeId) (z0 z1 : Int) (cs : Array Value) (d : TypeDesc)
    (hp : tmps.getD p undef = .pointer (some ⟨g0, 0, none⟩)) (hq : tmps.getD q undef = .pointer (some ⟨g1, 0, none⟩)) (hr : tmps.getD r undef = .pointer (some ⟨g2, 0, none⟩)) (hy : P.underlying ty = some (.int k))
    (h0 : At w g0 T0 #[.int k z0]) (h1 : At w g1 T0 #[.int k z1]) (hg : At w g2 T2 cs) (hu : P.underlying tz = some d) (hd : (match d with | .struct _ | .array _ _ => true | _ => false) = true) (hi : (P.info? tz).map (·.size) = some cs.size) :
    (results fn tmps).run P w = .ok (.tuple #[.int k z0, .int k z1, .agg cs, tmps.getD t undef]) w := by
  have hp' : tmps[p]?.getD undef = .pointer (some ⟨g0, 0, none⟩) := by simpa using hp
  have hq' : tmps[q]?.getD undef = .pointer (some ⟨g1, 0, none⟩) := by simpa using hq
  have hr' : tmps[r]?.getD undef = .pointer (some ⟨g2, 0, none⟩) := by simpa using hr
  have e0 := ld_int (P := P) (o := 0) hy (h0.cell 0) w (Grows.refl _)
  have e1 := ld_int (P := P) (o := 0) hy (h1.cell 0) w (Grows.refl _)
  simp [results, h, hp', hq', hr', asAddr, e0, e1, run_loadVar_row w g2 T2 tz cs (0, 0) d hg hu hd hi]
theorem zip1 (p : Tmp) (v : Value) (t0 : Array Value) : Array.foldl (fun (t : Array Value) (x : Tmp × Value) => t.setIfInBounds x.fst x.snd) t0 (#[p].zip #[v]) 0 1 = t0.setIfInBounds p v := by simp
/-- The state of Count between two rounds: what has been counted. -/
structure CtC (w w1 : World) (B : Nat) (vs : Array Value) (R N : Nat) (ks : List Int) (W : World) : Prop where
  t : Turns (fun i => i = w.heap.size ∨ i = w.heap.size + 1 ∨ i = w.heap.size + 1 + 1) w1 W (fun _ => False)
  reads : At W w.heap.size 3 #[.int .i64 (R : Int)]
  wrong : At W (w.heap.size + 1) 3 #[.int .i64 (N : Int)]
  kinds : At W (w.heap.size + 1 + 1) 54 (civ ks).toArray
  view : At W B 63 vs
theorem CtC.kp {w w1 : World} {B : Nat} {vs : Array Value} {R N : Nat} {ks : List Int} {W W' : World} (h : CtC w w1 B vs R N ks W) {b : Nat} (hw : w.heap.size + 1 + 1 < b) (hb : w1.heap.size ≤ b) (hB : B < b) (hk : Kp b (fun _ => False) W W') : CtC w w1 B vs R N ks W' :=
  ⟨h.t.kp hb hk, h.reads.kp (by omega) hk, h.wrong.kp (by omega) hk, h.kinds.kp hw hk, h.view.kp hB hk⟩
theorem CtC.grows {w w1 : World} {B : Nat} {vs : Array Value} {R N : Nat} {ks : List Int} {W W' : World} (h : CtC w w1 B vs R N ks W) (hg : Grows W W') : CtC w w1 B vs R N ks W' :=
  ⟨h.t.grows hg, h.reads.grows hg, h.wrong.grows hg, h.kinds.grows hg, h.view.grows hg⟩
def CountP (L : List Sn) (w : World) (e : Ending) (w' : World) : Prop :=
  Grows w w' ∧ ((mayB L = false ∧ e = .returned (.tuple #[.int .i64 0, .int .i64 0, .agg (civ [0, 0, 0, 0, 0]).toArray, .int .i64 2])) ∨
    (mayB L = true ∧ e = .returned (.tuple #[.int .i64 ((readsF L).length : Int), .int .i64 ((wrongF L).length : Int), .agg (civ (kcs (wrongF L))).toArray, .int .i64 0])))
theorem info_k5 : (Try.prog.info? 54).map (·.size) = some 5 := by kernel_rfl
set_option maxRecDepth 100000 in
set_option maxHeartbeats 8000000 in
theorem count32_any (L : List Sn) (n : Nat) (hn : L.length = n) (hL : n ≤ 1000) (hok : ∀ x ∈ L, x.n.ok ∧ x.wk.ok) (a : Option Addr) (cap : Nat) (w : World) (hr : Rd w a (rowsOf Sn.cs L)) :
    Calls Try.prog 20 #[.slice a n cap] w (CountP L w) := by
  have hfz := fz_zero
  have HLK := Lib.hid (fun W h => look_any L n hn hL hok a cap W h)
  have HR := Lib.hid hr
  have HN := Lib.hid hn
  have HNL := Lib.hid hL
  have HOK := Lib.hid hok
  clear hn hL hok hr
  obtain ⟨w0, hw0⟩ : ∃ w0, ((w.alloc (.cells #[.int .i64 0] 3)).alloc (.cells #[.int .i64 0] 3)).alloc (.cells #[.int .i64 0, .int .i64 0, .int .i64 0, .int .i64 0, .int .i64 0] 54) = w0 := ⟨_, rfl⟩
  have HG0 : Hid (Grows w w0) := Lib.hid (by rw [← hw0]; exact (((Grows.refl _).alloc _).alloc _).alloc _)
  have HS0 : Hid (w0.heap.size = w.heap.size + 3) := Lib.hid (by rw [← hw0]; simp only [World.size_alloc])
  have HA0 : Hid (At w0 w.heap.size 3 #[.int .i64 0]) := Lib.hid (by rw [← hw0]; exact ((At.new w _ _).alloc _).alloc _)
  have HA1 : Hid (At w0 (w.heap.size + 1) 3 #[.int .i64 0]) := Lib.hid (by
    have := At.new (w.alloc (.cells #[.int .i64 0] 3)) 3 #[.int .i64 0]
    rw [World.size_alloc] at this
    rw [← hw0]; exact this.alloc _)
  have HA2 : Hid (At w0 (w.heap.size + 1 + 1) 54 #[.int .i64 0, .int .i64 0, .int .i64 0, .int .i64 0, .int .i64 0]) := Lib.hid (by
    have := At.new ((w.alloc (.cells #[.int .i64 0] 3)).alloc (.cells #[.int .i64 0] 3)) 54 #[.int .i64 0, .int .i64 0, .int .i64 0, .int .i64 0, .int .i64 0]
    rw [World.size_alloc, World.size_alloc] at this
    rw [← hw0]; exact this)
  refine (callsIn_wide (n := 5)).1 ?_
  refine callsIn_of_wp_marks Try.func20 rfl trivial ?_ rfl
  simp only [Try.ntmps20, List.size_toArray, List.length_cons, List.length_nil, Nat.reduceAdd, Nat.reduceSub, Array.replicate_succ, Array.replicate_zero, List.push_toArray, List.append_toArray, List.nil_append, List.cons_append]
  gi_wp2_with (refine ⟨trivial, ?_⟩; gi_at_call 26; refine (callsIn_wide.2 (HLK.out _ (HR.out.grows HG0.out))).mono ?_)
  clear hw0
  rintro e w1 ⟨hg, ⟨hm, rfl⟩ | ⟨hm, a', c', r, V, rfl, h1, h2, h3, h4⟩⟩
  · have hgv : Grows w0 (w1.alloc (.cells #[.slice none 0 0, .slice none 0 0, .map none, .map none, .map none] 63)) := hg.alloc _
    have HM := Lib.hid hm
    have HG := Lib.hid (HG0.out.trans hgv)
    have hA0 := HA0.out.grows hgv
    have hA1 := HA1.out.grows hgv
    have hA2 := HA2.out.grows hgv
    have c0 := hA0.cell
    have c1 := hA1.cell
    have f0 := hA0.frozen
    have f1 := hA1.frozen
    obtain ⟨wy, hwy⟩ : ∃ wy, ((w1.alloc (.cells #[.slice none 0 0, .slice none 0 0, .map none, .map none, .map none] 63)).setCell ⟨w.heap.size, 0, none⟩ (.int .i64 0)).setCell ⟨w.heap.size + 1, 0, none⟩ (.int .i64 0) = wy := ⟨_, rfl⟩
    have hT : Turns (fun i => i = w.heap.size ∨ i = w.heap.size + 1) (w1.alloc (.cells #[.slice none 0 0, .slice none 0 0, .map none, .map none, .map none] 63)) wy (fun i => i = w.heap.size ∨ i = w.heap.size + 1) := by
      rw [← hwy]
      exact ((Turns.refl (fun i => i = w.heap.size ∨ i = w.heap.size + 1) (w1.alloc (.cells #[.slice none 0 0, .slice none 0 0, .map none, .map none, .map none] 63))).set (g := w.heap.size) (.inl (.inl rfl)) 0 _).set (g := w.heap.size + 1) (.inl (.inr rfl)) 0 _
    have hB2 := hT.at hA2 (by omega)
    have HB0 : Hid (At wy w.heap.size 3 #[.int .i64 0]) := Lib.hid (by rw [← hwy]; exact (hA0.set 0 _).far (by simp) _)
    have HB1 : Hid (At wy (w.heap.size + 1) 3 #[.int .i64 0]) := Lib.hid (by rw [← hwy]; exact (hA1.far (by simp) _).set 0 _)
    have HS2 : Hid ((storeVar 54 ⟨w.heap.size + 1 + 1, 0, none⟩ (.agg #[.int .i64 0, .int .i64 0, .int .i64 0, .int .i64 0, .int .i64 0])).run Try.prog wy = .ok () (wy.setCells (w.heap.size + 1 + 1) 0 (#[.int .i64 0, .int .i64 0, .int .i64 0, .int .i64 0, .int .i64 0] : Array Value).toList)) := Lib.hid (run_storeVar_mid _ _ 0 _ _ (hB2.there 0 _ (Nat.le_refl _)) info_k5 (by simp [Value.oneCell']))
    have HB2 := Lib.hid hB2
    have HGY : Hid (Grows w wy) := Lib.hid (hT.low HG.out (fun i hi => by omega))
    clear hm hg HLK HG0 HA0 HA1 HA2 hgv hA0 hA1 hA2 hT hB2
    gi_wp2_with (with_reducible refine wpListIn_store (w' := wy.setCells (w.heap.size + 1 + 1) 0 (#[.int .i64 0, .int .i64 0, .int .i64 0, .int .i64 0, .int .i64 0] : Array Value).toList) (o := ⟨none, .store 54 (.tmp 4) (.tmp 15), _, _, _, none⟩) rfl 54 (.tmp 4) (.tmp 15) rfl (w.heap.size + 1 + 1) 0 (.agg #[.int .i64 0, .int .i64 0, .int .i64 0, .int .i64 0, .int .i64 0]) ?_ ?_ HS2.out ?_)
    all_goals try rfl
    have hT2 : Turns (fun i => i = w.heap.size + 1 + 1) wy (wy.setCells (w.heap.size + 1 + 1) 0 (#[.int .i64 0, .int .i64 0, .int .i64 0, .int .i64 0, .int .i64 0] : Array Value).toList) (fun i => i = w.heap.size + 1 + 1) := Turns.sets (O := fun i => i = w.heap.size + 1 + 1) (g := w.heap.size + 1 + 1) (.inl rfl) _ 0 (Turns.refl (fun i => i = w.heap.size + 1 + 1) wy)
    have hB2 : At (wy.setCells (w.heap.size + 1 + 1) 0 (#[.int .i64 0, .int .i64 0, .int .i64 0, .int .i64 0, .int .i64 0] : Array Value).toList) (w.heap.size + 1 + 1) 54 #[.int .i64 0, .int .i64 0, .int .i64 0, .int .i64 0, .int .i64 0] := At.all (cs := (#[.int .i64 0, .int .i64 0, .int .i64 0, .int .i64 0, .int .i64 0] : Array Value).toList) (vs := (#[.int .i64 0, .int .i64 0, .int .i64 0, .int .i64 0, .int .i64 0] : Array Value).toList) HB2.out rfl
    exact ⟨_, results_count (ty := 3) (tz := 54) (k := .i64) Try.results20 _ _ w.heap.size (w.heap.size + 1) (w.heap.size + 1 + 1) 3 54 0 0 #[.int .i64 0, .int .i64 0, .int .i64 0, .int .i64 0, .int .i64 0] _ rfl rfl rfl Try.underlying3 (hT2.at HB0.out (by omega)) (hT2.at HB1.out (by omega)) hB2 Try.underlying54 rfl info_k5, hT2.low HGY.out (fun i hi => by omega), .inl ⟨HM.out, rfl⟩⟩
  · have HM := Lib.hid hm
    have HG := Lib.hid (HG0.out.trans hg)
    have HRV := Lib.hid ((HR.out.grows HG0.out).grows hg)
    have HNV := Lib.hid h3
    have HVW := Lib.hid h4
    have HRB : Hid (w.heap.size + 3 ≤ r) := Lib.hid (by have := HS0.out; omega)
    have HSZ1 : Hid (w.heap.size + 3 ≤ w1.heap.size) := Lib.hid (by have := HS0.out; have := hg.size; omega)
    have HB0 := Lib.hid (HA0.out.grows hg)
    have HB1 := Lib.hid (HA1.out.grows hg)
    have HB2 := Lib.hid (HA2.out.grows hg)
    have HNF : Hid (∀ i, (i = w.heap.size ∨ i = w.heap.size + 1 ∨ i = w.heap.size + 1 + 1) → decL L = [] ∨ ∀ off, a' ≠ some ⟨i, off, none⟩) := Lib.hid (by
      rintro i (rfl | rfl | rfl)
      · exact names_far hm h3 (HA0.out.grows hg) (fun i v hv => by
          match i, hv with
          | 0, hv => simpa using hv.symm)
      · exact names_far hm h3 (HA1.out.grows hg) (fun i v hv => by
          match i, hv with
          | 0, hv => simpa using hv.symm)
      · exact names_far hm h3 (HA2.out.grows hg) (fun i v hv => by
          match i, hv with
          | 0, hv => simpa using hv.symm
          | 1, hv => simpa using hv.symm
          | 2, hv => simpa using hv.symm
          | 3, hv => simpa using hv.symm
          | 4, hv => simpa using hv.symm))
    unfold vwv
    clear hm hg h1 h2 h3 h4 HLK HG0 HA0 HA1 HA2 HS0
    obtain ⟨B, hB⟩ : ∃ B, w1.heap.size = B := ⟨_, rfl⟩
    obtain ⟨w3, hw3⟩ : ∃ w3, (w1.alloc (.cells #[.slice a n cap, .slice a' (decL L).length c', .map (some r), .map (some (r + 1)), .map (some (r + 2))] 63)).alloc (.cells #[.slice a n cap, .slice a' (decL L).length c', .map (some r), .map (some (r + 1)), .map (some (r + 2))] 63) = w3 := ⟨_, rfl⟩
    have hs3 : w3.heap.size = B + 2 := by rw [← hw3]; simp only [World.size_alloc]; omega
    have HG3 : Hid (Grows w1 w3) := Lib.hid (by rw [← hw3]; exact ((Grows.refl _).alloc _).alloc _)
    have HV3 : Hid (At w3 B 63 #[.slice a n cap, .slice a' (decL L).length c', .map (some r), .map (some (r + 1)), .map (some (r + 2))]) := Lib.hid (by
      have := At.new w1 63 #[.slice a n cap, .slice a' (decL L).length c', .map (some r), .map (some (r + 1)), .map (some (r + 2))]
      rw [hB] at this
      rw [← hw3]; exact this.alloc _)
    have HC3 : Hid (At w3 (B + 1) 63 #[.slice a n cap, .slice a' (decL L).length c', .map (some r), .map (some (r + 1)), .map (some (r + 2))]) := Lib.hid (by
      have := At.new (w1.alloc (.cells #[.slice a n cap, .slice a' (decL L).length c', .map (some r), .map (some (r + 1)), .map (some (r + 2))] 63)) 63 #[.slice a n cap, .slice a' (decL L).length c', .map (some r), .map (some (r + 1)), .map (some (r + 2))]
      rw [World.size_alloc, hB] at this
      rw [← hw3]; exact this)
    gi_wp2_with (refine ⟨trivial, ?_⟩; gi_at_call 30; refine (callsIn_wide.2 (reads_any _ _ _ _ _ _ _ _)).mono ?_; rintro e w' ⟨rfl, rfl⟩)
    clear hw3
    have HWB : Hid (w.heap.size + 3 ≤ B) := Lib.hid (by rw [← hB]; exact HSZ1.out)
    have HVB : Hid (∀ R N ks bl W, CtC w w1 B #[.slice a n cap, .slice a' (decL L).length c', .map (some r), .map (some (r + 1)), .map (some (r + 2))] R N ks W → At W bl 63 #[.slice a n cap, .slice a' (decL L).length c', .map (some r), .map (some (r + 1)), .map (some (r + 2))] → VwB W bl L a n cap a' c' r V) := Lib.hid (fun R N ks bl W h hv =>
      ⟨hv, HR.out.grows (h.t.low HG.out (fun i hi => by omega)), names_turns HNV.out h.t HNF.out, HVW.out.turns h.t (fun i hi => by have := HRB.out; omega)⟩)
    obtain ⟨R, hR⟩ : ∃ R, (readsF L).length = R := ⟨_, rfl⟩
    have HRR := Lib.hid hR
    have HRL : Hid ((readsF L).length ≤ 1000000) := Lib.hid (by
      have h2 : (readsF L).length ≤ (plsD L).length := rdF_len _ _
      have h3 : (plsD L).length ≤ (decL L).length * L.length := flatMap_len _ _ _ (fun x _ => Nat.le_trans (pls_len _ _) (ev_len L))
      have h4 := decL_len L
      have h5 : (decL L).length * L.length ≤ 1000 * 1000 := Nat.mul_le_mul (by have := HN.out; have := HNL.out; omega) (by have := HN.out; have := HNL.out; omega)
      omega)
    refine wpIn_reads 3 (B + 1) a cap L n HN.out HNL.out HM.out HOK.out a' c' r V w3 rfl (by omega) (fun k W => CtC w w1 B #[.slice a n cap, .slice a' (decL L).length c', .map (some r), .map (some (r + 1)), .map (some (r + 2))] k 0 [0, 0, 0, 0, 0] W ∧ At W (B + 1) 63 #[.slice a n cap, .slice a' (decL L).length c', .map (some r), .map (some (r + 1)), .map (some (r + 2))]) (fun i => i = w.heap.size) ?c1 ?c2 ?c3 ?c4 rfl ?c5 ?c6
    case c1 => intro i hi; have := HWB.out; omega
    case c2 => exact ⟨⟨(Turns.refl (fun i => i = w.heap.size ∨ i = w.heap.size + 1 ∨ i = w.heap.size + 1 + 1) w1).grows HG3.out |>.weak, HB0.out.grows HG3.out, HB1.out.grows HG3.out, HB2.out.grows HG3.out, HV3.out⟩, HC3.out⟩
    case c3 =>
      rintro k W W' ⟨h, hv⟩ hk
      rw [hs3] at hk
      have := HWB.out
      exact ⟨h.kp (by omega) (by omega) (by omega) hk, hv.kp (by omega) hk⟩
    case c4 =>
      rintro k W ⟨h, hv⟩
      exact HVB.out _ _ _ _ _ h hv
    case c5 =>
      rintro fn k f W' rc hrc hf ⟨h, hv⟩ hl hsz
      rw [hs3] at hl hsz ⊢
      have hkl : k < 1000000 := by have := (List.getElem?_eq_some_iff.1 hf).1; have := HRL.out; omega
      have hwr : IntKind.i64.wrap ((k : Int) + 1) = (k : Int) + 1 := IntWalk.i64_in _ (by omega)
      have hwb := HWB.out
      obtain ⟨W5, hW5⟩ : ∃ W5, W'.putObj (B + 2 + 1) (.loop (rc .busy)) = W5 := ⟨_, rfl⟩
      have hT5 : Turns (fun i => i = B + 2 + 1) W' W5 (fun i => i = B + 2 + 1) := by rw [← hW5]; exact (Turns.refl (fun i => i = B + 2 + 1) W').put (g := B + 2 + 1) (.inl rfl) _
      have hk5 : Kp (B + 2) (fun _ => False) W' W5 := Kp.of_turns hT5 (by
        rintro i rfl (h1 | h1)
        · omega
        · exact h1)
      have h5 := h.kp (b := B + 2) (by omega) (by omega) (by omega) hk5
      have hv5 := hv.kp (b := B + 2) (by omega) hk5
      have hL5 : W5.heap[B + 2 + 1]? = some (.loop (rc .busy)) := by rw [← hW5]; exact World.putObj_heap_same (by omega)
      have cR : W5.cell? ⟨w.heap.size, 0, none⟩ = some (.int .i64 (k : Int)) := h5.reads.cell 0
      have fR : W5.frozen? ⟨w.heap.size, 0, none⟩ = false := h5.reads.frozen 0
      have hT7 : Turns (fun i => i = w.heap.size) W5 (W5.setCell ⟨w.heap.size, 0, none⟩ (.int .i64 ((k : Int) + 1))) (fun i => i = w.heap.size) := (Turns.refl (fun i => i = w.heap.size) W5).set (g := w.heap.size) (.inl rfl) 0 _
      have HL7 : Hid ((W5.setCell ⟨w.heap.size, 0, none⟩ (.int .i64 ((k : Int) + 1))).heap[B + 2 + 1]? = some (.loop (rc .busy))) := Lib.hid ((hT7.block _ (Array.getElem?_eq_some_iff.1 hL5).1 (by omega)).trans hL5)
      have HZ : Hid (CtC w w1 B #[.slice a n cap, .slice a' (decL L).length c', .map (some r), .map (some (r + 1)), .map (some (r + 2))] (k + 1) 0 [0, 0, 0, 0, 0] (W5.setCell ⟨w.heap.size, 0, none⟩ (.int .i64 ((k : Int) + 1))) ∧ At (W5.setCell ⟨w.heap.size, 0, none⟩ (.int .i64 ((k : Int) + 1))) (B + 1) 63 #[.slice a n cap, .slice a' (decL L).length c', .map (some r), .map (some (r + 1)), .map (some (r + 2))]) := Lib.hid
        ⟨⟨h5.t.set (g := w.heap.size) (.inl (.inl rfl)) 0 _, h5.reads.set 0 _, hT7.at h5.wrong (by omega), hT7.at h5.kinds (by omega), hT7.at h5.view (by omega)⟩, hT7.at hv5 (by omega)⟩
      have HT7 : Hid (Turns (fun i => i = w.heap.size ∨ i = B + 2 + 1) W' (W5.setCell ⟨w.heap.size, 0, none⟩ (.int .i64 ((k : Int) + 1))) (fun i => i = w.heap.size ∨ i = B + 2 + 1)) := Lib.hid (by
        rw [← hW5]
        exact ((Turns.refl (fun i => i = w.heap.size ∨ i = B + 2 + 1) W').put (g := B + 2 + 1) (.inl (.inr rfl)) _).set (g := w.heap.size) (.inl (.inl rfl)) 0 _)
      clear hrc hf h hv hsz hT5 hk5 h5 hv5 hL5 hT7 hs3 hkl hwb
      gi_wp2
      refine ⟨hl, ?_⟩
      rw [hW5]
      clear hl hW5
      gi_wp2
      exact ⟨HL7.out, HZ.out, HT7.out⟩
    case c6 =>
      rintro W ⟨h, hv⟩ hd hs
      rw [hs3] at hd hs ⊢
      rw [hR] at h
      have hgw : Grows w W := h.t.low HG.out (fun i hi => by omega)
      have v0 : W.cell? ⟨B, 0, none⟩ = some (.slice a n cap) := h.view.cell 0
      have v1 : W.cell? ⟨B, 1, none⟩ = some (.slice a' (decL L).length c') := h.view.cell 1
      have v2 : W.cell? ⟨B, 2, none⟩ = some (.map (some r)) := h.view.cell 2
      have v3 : W.cell? ⟨B, 3, none⟩ = some (.map (some (r + 1))) := h.view.cell 3
      have v4 : W.cell? ⟨B, 4, none⟩ = some (.map (some (r + 2))) := h.view.cell 4
      have HC := Lib.hid h
      have HD := Lib.hid hd
      have HSW := Lib.hid hs
      clear h hv hd hs hgw
      dsimp only
      gi_wp2_with (refine ⟨trivial, ?_⟩; gi_at_call 28; refine (callsIn_wide.2 (faults_any _ _ _ _ _ _ _ _)).mono ?_; rintro e w' ⟨rfl, rfl⟩)
      clear v0 v1 v2 v3 v4
      obtain ⟨S, hS⟩ : ∃ S, W.heap.size = S := ⟨_, rfl⟩
      obtain ⟨w4, hw4⟩ : ∃ w4, W.alloc (.cells #[.slice a n cap, .slice a' (decL L).length c', .map (some r), .map (some (r + 1)), .map (some (r + 2))] 63) = w4 := ⟨_, rfl⟩
      have hs4 : w4.heap.size = S + 1 := by rw [← hw4, World.size_alloc, hS]
      have HG4 : Hid (Grows W w4) := Lib.hid (by rw [← hw4]; exact (Grows.refl _).alloc _)
      have HV4 : Hid (At w4 S 63 #[.slice a n cap, .slice a' (decL L).length c', .map (some r), .map (some (r + 1)), .map (some (r + 2))]) := Lib.hid (by
        have := At.new W 63 #[.slice a n cap, .slice a' (decL L).length c', .map (some r), .map (some (r + 1)), .map (some (r + 2))]
        rw [hS] at this
        rw [← hw4]; exact this)
      have HSB : Hid (B + 4 ≤ S) := Lib.hid (by rw [← hS]; exact HSW.out)
      rw [hw4, hS]
      clear hw4
      obtain ⟨fs, hfs⟩ : ∃ fs, wrongF L = fs := ⟨_, rfl⟩
      have HFO : Hid (∀ f ∈ fs, f.ok) := Lib.hid (by rw [← hfs]; exact wrongF_ok HM.out HOK.out)
      have HFL : Hid (fs.length ≤ 1000000) := Lib.hid (by rw [← hfs]; exact wrongF_len (by have := HN.out; have := HNL.out; omega))
      have HFK : Hid (∀ f ∈ fs, 0 ≤ f.k ∧ f.k ≤ 4) := Lib.hid (fun f hf => by
        rw [← hfs] at hf
        obtain ⟨x, hb⟩ := blame_any HM.out hf
        exact ⟨hb.kind.1, hb.kind.2.1⟩)
      refine wpIn_faults 1 S a cap L n HN.out HNL.out HM.out HOK.out a' c' r V w4 rfl (by omega) (fun k W2 => CtC w w1 B #[.slice a n cap, .slice a' (decL L).length c', .map (some r), .map (some (r + 1)), .map (some (r + 2))] R k (kcs (fs.take k)) W2 ∧ At W2 S 63 #[.slice a n cap, .slice a' (decL L).length c', .map (some r), .map (some (r + 1)), .map (some (r + 2))] ∧ W2.heap[B + 2]? = some (.deferred (some []))) (fun i => i = w.heap.size + 1 ∨ i = w.heap.size + 1 + 1) ?e1 ?e2 ?e3 ?e4 rfl ?e5 ?e6
      case e1 => intro i hi; have := HWB.out; have := HSB.out; omega
      case e2 => exact ⟨HC.out.grows HG4.out, HV4.out, (HG4.out.block _ (Array.getElem?_eq_some_iff.1 HD.out).1).trans HD.out⟩
      case e3 =>
        rintro k W1 W2 ⟨h, hv, hd⟩ hk
        rw [hs4] at hk
        have := HWB.out
        have := HSB.out
        exact ⟨h.kp (by omega) (by omega) (by omega) hk, hv.kp (by omega) hk, (hk.block _ (Array.getElem?_eq_some_iff.1 hd).1 (.inl (by omega))).trans hd⟩
      case e4 =>
        rintro k W1 ⟨h, hv, _⟩
        exact HVB.out _ _ _ _ _ h hv
      case e5 =>
        rintro fn k f W' rc hrc hf ⟨h, hv, hd⟩ hl hsz
        rw [hs4] at hl hsz ⊢
        rw [hfs] at hf
        have hfm := List.mem_of_getElem? hf
        have hfo : f.ok := HFO.out f hfm
        have hkl : k < 1000000 := by have := (List.getElem?_eq_some_iff.1 hf).1; have := HFL.out; omega
        have hwr : IntKind.i64.wrap ((k : Int) + 1) = (k : Int) + 1 := IntWalk.i64_in _ (by omega)
        have hwb := HWB.out
        have hsb := HSB.out
        obtain ⟨W4, hW4⟩ : ∃ W4, (W'.alloc (.cells fz 34)).setCells W'.heap.size 0 f.cs.toArray.toList = W4 := ⟨_, rfl⟩
        have hT4 : Turns (fun i => (i = w.heap.size + 1 ∨ i = w.heap.size + 1 + 1) ∨ i = S + 1 + 1) W' W4 (fun i => (i = w.heap.size + 1 ∨ i = w.heap.size + 1 + 1) ∨ i = S + 1 + 1) := by rw [← hW4]; exact Turns.sets (.inr (Nat.le_refl _)) _ 0 ((Turns.refl _ W').alloc _)
        have hG4 : Grows W' W4 := by rw [← hW4]; exact (Turns.sets (O := fun i => i = W'.heap.size) (g := W'.heap.size) (.inl rfl) _ 0 ((Turns.refl _ W').alloc _)).low (Grows.refl W') (fun i hi => by omega)
        have hX4 : At W4 W'.heap.size 34 f.cs.toArray := by
          rw [← hW4]
          exact At.all (cs := fz.toList) (At.new W' _ _) (by rw [List.toList_toArray, Ft.cs_len hfo]; rfl)
        have hL4 : W4.heap[S + 1 + 1]? = some (.loop (rc .ready)) := (hG4.block _ (by omega)).trans hl
        have hlt4 : S + 1 + 1 < W4.heap.size := (Array.getElem?_eq_some_iff.1 hL4).1
        obtain ⟨W5, hW5⟩ : ∃ W5, W4.putObj (S + 1 + 1) (.loop (rc .busy)) = W5 := ⟨_, rfl⟩
        have HT5 : Hid (Turns (fun i => (i = w.heap.size + 1 ∨ i = w.heap.size + 1 + 1) ∨ i = S + 1 + 1) W' W5 (fun i => (i = w.heap.size + 1 ∨ i = w.heap.size + 1 + 1) ∨ i = S + 1 + 1)) := Lib.hid (by rw [← hW5]; exact hT4.put (.inl (.inr rfl)) _)
        have hT5' : Turns (fun i => i = S + 1 + 1) W' W5 (fun i => i = S + 1 + 1) := by rw [← hW5]; exact ((Turns.refl (fun i => i = S + 1 + 1) W').grows hG4).put (g := S + 1 + 1) (.inl rfl) _
        have hk5 : Kp (S + 1) (fun _ => False) W' W5 := Kp.of_turns hT5' (by
          rintro i rfl (h1 | h1)
          · omega
          · exact h1)
        have H5 := Lib.hid (h.kp (b := S + 1) (by omega) (by omega) (by omega) hk5)
        have HV5 := Lib.hid (hv.kp (b := S + 1) (by omega) hk5)
        have HD5 : Hid (W5.heap[B + 2]? = some (.deferred (some []))) := Lib.hid ((hk5.block _ (Array.getElem?_eq_some_iff.1 hd).1 (.inl (by omega))).trans hd)
        have HL5 : Hid (W5.heap[S + 1 + 1]? = some (.loop (rc .busy))) := Lib.hid (by rw [← hW5]; exact World.putObj_heap_same hlt4)
        have hX5 : At W5 W'.heap.size 34 f.cs.toArray := by rw [← hW5]; exact hX4.putObj (by omega) _
        have HS : Hid ((storeVar 34 ⟨W'.heap.size, 0, none⟩ (.agg f.cs.toArray)).run Try.prog (W'.alloc (.cells fz 34)) = .ok () W4) := Lib.hid (by
          rw [← hW4]
          exact run_storeVar_mid _ _ 0 _ _ ((At.new W' _ _).there 0 _ (by rw [List.size_toArray, Ft.cs_len hfo]; exact Nat.le_refl _)) (by rw [List.size_toArray, Ft.cs_len hfo]; exact info_fault) f.cs_one)
        have cX : W5.cell? ⟨W'.heap.size, 27, none⟩ = some (.int .i8 f.k) := (hX5.cell 27).trans (Ft.cs_k hfo)
        have c1 : W5.cell? ⟨w.heap.size + 1, 0, none⟩ = some (.int .i64 (k : Int)) := H5.out.wrong.cell 0
        have f1 : W5.frozen? ⟨w.heap.size + 1, 0, none⟩ = false := H5.out.wrong.frozen 0
        have hb0 := kc_le fs k 0
        have hb1 := kc_le fs k 1
        have hb2 := kc_le fs k 2
        have hb3 := kc_le fs k 3
        have hb4 := kc_le fs k 4
        obtain ⟨q0, hq0⟩ : ∃ q, kc (fs.take k) 0 = q := ⟨_, rfl⟩
        obtain ⟨q1, hq1⟩ : ∃ q, kc (fs.take k) 1 = q := ⟨_, rfl⟩
        obtain ⟨q2, hq2⟩ : ∃ q, kc (fs.take k) 2 = q := ⟨_, rfl⟩
        obtain ⟨q3, hq3⟩ : ∃ q, kc (fs.take k) 3 = q := ⟨_, rfl⟩
        obtain ⟨q4, hq4⟩ : ∃ q, kc (fs.take k) 4 = q := ⟨_, rfl⟩
        have hA5 : At W5 (w.heap.size + 1 + 1) 54 #[.int .i64 q0, .int .i64 q1, .int .i64 q2, .int .i64 q3, .int .i64 q4] := by
          have := H5.out.kinds
          unfold kcs at this
          rw [hq0, hq1, hq2, hq3, hq4] at this
          exact this
        rw [hq0] at hb0
        rw [hq1] at hb1
        rw [hq2] at hb2
        rw [hq3] at hb3
        rw [hq4] at hb4
        have HQ0 := Lib.hid hq0
        have HQ1 := Lib.hid hq1
        have HQ2 := Lib.hid hq2
        have HQ3 := Lib.hid hq3
        have HQ4 := Lib.hid hq4
        have HWQ : Hid (∀ i : Nat, IntKind.i64.wrap (([q0, q1, q2, q3, q4].getD i 0) + 1) = ([q0, q1, q2, q3, q4].getD i 0) + 1) := Lib.hid (fun i => IntWalk.i64_in _ (by
          have := HFL.out
          match i with
          | 0 => show _ ≤ q0 + 1 ∧ q0 + 1 ≤ _; omega
          | 1 => show _ ≤ q1 + 1 ∧ q1 + 1 ≤ _; omega
          | 2 => show _ ≤ q2 + 1 ∧ q2 + 1 ≤ _; omega
          | 3 => show _ ≤ q3 + 1 ∧ q3 + 1 ≤ _; omega
          | 4 => show _ ≤ q4 + 1 ∧ q4 + 1 ≤ _; omega
          | i + 5 => show _ ≤ (0 : Int) + 1 ∧ (0 : Int) + 1 ≤ _; omega))
        have c2 := hA5.cell
        have f2 := hA5.frozen
        have HA5 := Lib.hid hA5
        have HF := Lib.hid hf
        obtain ⟨hk0, hk4⟩ := HFK.out f hfm
        have hcs : f.k = 0 ∨ f.k = 1 ∨ f.k = 2 ∨ f.k = 3 ∨ f.k = 4 := by omega
        clear hrc hf h hv hd hsz hT4 hG4 hX4 hlt4 hT5' hk5 hX5 hs4 hkl hfm hfo hk0 hk4 hb0 hb1 hb2 hb3 hb4 hq0 hq1 hq2 hq3 hq4 hA5 hW4 hl hfs hS
        rcases hcs with hc | hc | hc | hc | hc
        · rw [hc] at cX
          have hwq : IntKind.i64.wrap (q0 + 1) = q0 + 1 := HWQ.out 0
          have hT7 : Turns (fun i => i = w.heap.size + 1 ∨ i = w.heap.size + 1 + 1) W5 ((W5.setCell ⟨w.heap.size + 1, 0, none⟩ (.int .i64 ((k : Int) + 1))).setCell ⟨w.heap.size + 1 + 1, 0, none⟩ (.int .i64 (q0 + 1))) (fun i => i = w.heap.size + 1 ∨ i = w.heap.size + 1 + 1) := ((Turns.refl (fun i => i = w.heap.size + 1 ∨ i = w.heap.size + 1 + 1) W5).set (g := w.heap.size + 1) (.inl (.inl rfl)) 0 _).set (g := w.heap.size + 1 + 1) (.inl (.inr rfl)) 0 _
          have HL7 : Hid (((W5.setCell ⟨w.heap.size + 1, 0, none⟩ (.int .i64 ((k : Int) + 1))).setCell ⟨w.heap.size + 1 + 1, 0, none⟩ (.int .i64 (q0 + 1))).heap[S + 1 + 1]? = some (.loop (rc .busy))) := Lib.hid ((hT7.block _ (Array.getElem?_eq_some_iff.1 HL5.out).1 (by omega)).trans HL5.out)
          have HZ : Hid (CtC w w1 B #[.slice a n cap, .slice a' (decL L).length c', .map (some r), .map (some (r + 1)), .map (some (r + 2))] R (k + 1) (kcs (fs.take (k + 1))) ((W5.setCell ⟨w.heap.size + 1, 0, none⟩ (.int .i64 ((k : Int) + 1))).setCell ⟨w.heap.size + 1 + 1, 0, none⟩ (.int .i64 (q0 + 1))) ∧ At ((W5.setCell ⟨w.heap.size + 1, 0, none⟩ (.int .i64 ((k : Int) + 1))).setCell ⟨w.heap.size + 1 + 1, 0, none⟩ (.int .i64 (q0 + 1))) S 63 #[.slice a n cap, .slice a' (decL L).length c', .map (some r), .map (some (r + 1)), .map (some (r + 2))] ∧ ((W5.setCell ⟨w.heap.size + 1, 0, none⟩ (.int .i64 ((k : Int) + 1))).setCell ⟨w.heap.size + 1 + 1, 0, none⟩ (.int .i64 (q0 + 1))).heap[B + 2]? = some (.deferred (some []))) := Lib.hid (by
            refine ⟨⟨(H5.out.t.set (g := w.heap.size + 1) (.inl (.inr (.inl rfl))) 0 _).set (g := w.heap.size + 1 + 1) (.inl (.inr (.inr rfl))) 0 _, hT7.at H5.out.reads (by omega), (H5.out.wrong.set 0 _).far (by simp) _, ?_, hT7.at H5.out.view (by omega)⟩, hT7.at HV5.out (by omega), (hT7.block _ (Array.getElem?_eq_some_iff.1 HD5.out).1 (by omega)).trans HD5.out⟩
            have e : kcs (fs.take (k + 1)) = [q0 + 1, q1, q2, q3, q4] := by
              unfold kcs
              rw [kc_more HF.out, kc_more HF.out, kc_more HF.out, kc_more HF.out, kc_more HF.out, hc, HQ0.out, HQ1.out, HQ2.out, HQ3.out, HQ4.out]
              rfl
            rw [e]
            exact (HA5.out.far (by simp) _).set 0 _)
          have HT7 : Hid (Turns (fun i => (i = w.heap.size + 1 ∨ i = w.heap.size + 1 + 1) ∨ i = S + 1 + 1) W' ((W5.setCell ⟨w.heap.size + 1, 0, none⟩ (.int .i64 ((k : Int) + 1))).setCell ⟨w.heap.size + 1 + 1, 0, none⟩ (.int .i64 (q0 + 1))) (fun i => (i = w.heap.size + 1 ∨ i = w.heap.size + 1 + 1) ∨ i = S + 1 + 1)) := Lib.hid ((HT5.out.set (g := w.heap.size + 1) (.inl (.inl (.inl rfl))) 0 _).set (g := w.heap.size + 1 + 1) (.inl (.inl (.inr rfl))) 0 _)
          clear hT7 hc
          gi_wp2_with (with_reducible refine wpListIn_store (w' := W4) (o := ⟨none, .store 34 (.tmp 7) (.tmp 23), _, _, _, none⟩) rfl 34 (.tmp 7) (.tmp 23) rfl W'.heap.size 0 (.agg f.cs.toArray) ?_ ?_ HS.out ?_)
          all_goals try rfl
          refine ⟨hL4, ?_⟩
          rw [hW5]
          clear hL4 hW5
          gi_wp2
          exact ⟨HL7.out, HZ.out, HT7.out⟩
        · rw [hc] at cX
          have hwq : IntKind.i64.wrap (q1 + 1) = q1 + 1 := HWQ.out 1
          have hT7 : Turns (fun i => i = w.heap.size + 1 ∨ i = w.heap.size + 1 + 1) W5 ((W5.setCell ⟨w.heap.size + 1, 0, none⟩ (.int .i64 ((k : Int) + 1))).setCell ⟨w.heap.size + 1 + 1, 1, none⟩ (.int .i64 (q1 + 1))) (fun i => i = w.heap.size + 1 ∨ i = w.heap.size + 1 + 1) := ((Turns.refl (fun i => i = w.heap.size + 1 ∨ i = w.heap.size + 1 + 1) W5).set (g := w.heap.size + 1) (.inl (.inl rfl)) 0 _).set (g := w.heap.size + 1 + 1) (.inl (.inr rfl)) 1 _
          have HL7 : Hid (((W5.setCell ⟨w.heap.size + 1, 0, none⟩ (.int .i64 ((k : Int) + 1))).setCell ⟨w.heap.size + 1 + 1, 1, none⟩ (.int .i64 (q1 + 1))).heap[S + 1 + 1]? = some (.loop (rc .busy))) := Lib.hid ((hT7.block _ (Array.getElem?_eq_some_iff.1 HL5.out).1 (by omega)).trans HL5.out)
          have HZ : Hid (CtC w w1 B #[.slice a n cap, .slice a' (decL L).length c', .map (some r), .map (some (r + 1)), .map (some (r + 2))] R (k + 1) (kcs (fs.take (k + 1))) ((W5.setCell ⟨w.heap.size + 1, 0, none⟩ (.int .i64 ((k : Int) + 1))).setCell ⟨w.heap.size + 1 + 1, 1, none⟩ (.int .i64 (q1 + 1))) ∧ At ((W5.setCell ⟨w.heap.size + 1, 0, none⟩ (.int .i64 ((k : Int) + 1))).setCell ⟨w.heap.size + 1 + 1, 1, none⟩ (.int .i64 (q1 + 1))) S 63 #[.slice a n cap, .slice a' (decL L).length c', .map (some r), .map (some (r + 1)), .map (some (r + 2))] ∧ ((W5.setCell ⟨w.heap.size + 1, 0, none⟩ (.int .i64 ((k : Int) + 1))).setCell ⟨w.heap.size + 1 + 1, 1, none⟩ (.int .i64 (q1 + 1))).heap[B + 2]? = some (.deferred (some []))) := Lib.hid (by
            refine ⟨⟨(H5.out.t.set (g := w.heap.size + 1) (.inl (.inr (.inl rfl))) 0 _).set (g := w.heap.size + 1 + 1) (.inl (.inr (.inr rfl))) 1 _, hT7.at H5.out.reads (by omega), (H5.out.wrong.set 0 _).far (by simp) _, ?_, hT7.at H5.out.view (by omega)⟩, hT7.at HV5.out (by omega), (hT7.block _ (Array.getElem?_eq_some_iff.1 HD5.out).1 (by omega)).trans HD5.out⟩
            have e : kcs (fs.take (k + 1)) = [q0, q1 + 1, q2, q3, q4] := by
              unfold kcs
              rw [kc_more HF.out, kc_more HF.out, kc_more HF.out, kc_more HF.out, kc_more HF.out, hc, HQ0.out, HQ1.out, HQ2.out, HQ3.out, HQ4.out]
              rfl
            rw [e]
            exact (HA5.out.far (by simp) _).set 1 _)
          have HT7 : Hid (Turns (fun i => (i = w.heap.size + 1 ∨ i = w.heap.size + 1 + 1) ∨ i = S + 1 + 1) W' ((W5.setCell ⟨w.heap.size + 1, 0, none⟩ (.int .i64 ((k : Int) + 1))).setCell ⟨w.heap.size + 1 + 1, 1, none⟩ (.int .i64 (q1 + 1))) (fun i => (i = w.heap.size + 1 ∨ i = w.heap.size + 1 + 1) ∨ i = S + 1 + 1)) := Lib.hid ((HT5.out.set (g := w.heap.size + 1) (.inl (.inl (.inl rfl))) 0 _).set (g := w.heap.size + 1 + 1) (.inl (.inl (.inr rfl))) 1 _)
          clear hT7 hc
          gi_wp2_with (with_reducible refine wpListIn_store (w' := W4) (o := ⟨none, .store 34 (.tmp 7) (.tmp 23), _, _, _, none⟩) rfl 34 (.tmp 7) (.tmp 23) rfl W'.heap.size 0 (.agg f.cs.toArray) ?_ ?_ HS.out ?_)
          all_goals try rfl
          refine ⟨hL4, ?_⟩
          rw [hW5]
          clear hL4 hW5
          gi_wp2
          exact ⟨HL7.out, HZ.out, HT7.out⟩
        · rw [hc] at cX
          have hwq : IntKind.i64.wrap (q2 + 1) = q2 + 1 := HWQ.out 2
          have hT7 : Turns (fun i => i = w.heap.size + 1 ∨ i = w.heap.size + 1 + 1) W5 ((W5.setCell ⟨w.heap.size + 1, 0, none⟩ (.int .i64 ((k : Int) + 1))).setCell ⟨w.heap.size + 1 + 1, 2, none⟩ (.int .i64 (q2 + 1))) (fun i => i = w.heap.size + 1 ∨ i = w.heap.size + 1 + 1) := ((Turns.refl (fun i => i = w.heap.size + 1 ∨ i = w.heap.size + 1 + 1) W5).set (g := w.heap.size + 1) (.inl (.inl rfl)) 0 _).set (g := w.heap.size + 1 + 1) (.inl (.inr rfl)) 2 _
          have HL7 : Hid (((W5.setCell ⟨w.heap.size + 1, 0, none⟩ (.int .i64 ((k : Int) + 1))).setCell ⟨w.heap.size + 1 + 1, 2, none⟩ (.int .i64 (q2 + 1))).heap[S + 1 + 1]? = some (.loop (rc .busy))) := Lib.hid ((hT7.block _ (Array.getElem?_eq_some_iff.1 HL5.out).1 (by omega)).trans HL5.out)
          have HZ : Hid (CtC w w1 B #[.slice a n cap, .slice a' (decL L).length c', .map (some r), .map (some (r + 1)), .map (some (r + 2))] R (k + 1) (kcs (fs.take (k + 1))) ((W5.setCell ⟨w.heap.size + 1, 0, none⟩ (.int .i64 ((k : Int) + 1))).setCell ⟨w.heap.size + 1 + 1, 2, none⟩ (.int .i64 (q2 + 1))) ∧ At ((W5.setCell ⟨w.heap.size + 1, 0, none⟩ (.int .i64 ((k : Int) + 1))).setCell ⟨w.heap.size + 1 + 1, 2, none⟩ (.int .i64 (q2 + 1))) S 63 #[.slice a n cap, .slice a' (decL L).length c', .map (some r), .map (some (r + 1)), .map (some (r + 2))] ∧ ((W5.setCell ⟨w.heap.size + 1, 0, none⟩ (.int .i64 ((k : Int) + 1))).setCell ⟨w.heap.size + 1 + 1, 2, none⟩ (.int .i64 (q2 + 1))).heap[B + 2]? = some (.deferred (some []))) := Lib.hid (by
            refine ⟨⟨(H5.out.t.set (g := w.heap.size + 1) (.inl (.inr (.inl rfl))) 0 _).set (g := w.heap.size + 1 + 1) (.inl (.inr (.inr rfl))) 2 _, hT7.at H5.out.reads (by omega), (H5.out.wrong.set 0 _).far (by simp) _, ?_, hT7.at H5.out.view (by omega)⟩, hT7.at HV5.out (by omega), (hT7.block _ (Array.getElem?_eq_some_iff.1 HD5.out).1 (by omega)).trans HD5.out⟩
            have e : kcs (fs.take (k + 1)) = [q0, q1, q2 + 1, q3, q4] := by
              unfold kcs
              rw [kc_more HF.out, kc_more HF.out, kc_more HF.out, kc_more HF.out, kc_more HF.out, hc, HQ0.out, HQ1.out, HQ2.out, HQ3.out, HQ4.out]
              rfl
            rw [e]
            exact (HA5.out.far (by simp) _).set 2 _)
          have HT7 : Hid (Turns (fun i => (i = w.heap.size + 1 ∨ i = w.heap.size + 1 + 1) ∨ i = S + 1 + 1) W' ((W5.setCell ⟨w.heap.size + 1, 0, none⟩ (.int .i64 ((k : Int) + 1))).setCell ⟨w.heap.size + 1 + 1, 2, none⟩ (.int .i64 (q2 + 1))) (fun i => (i = w.heap.size + 1 ∨ i = w.heap.size + 1 + 1) ∨ i = S + 1 + 1)) := Lib.hid ((HT5.out.set (g := w.heap.size + 1) (.inl (.inl (.inl rfl))) 0 _).set (g := w.heap.size + 1 + 1) (.inl (.inl (.inr rfl))) 2 _)
          clear hT7 hc
          gi_wp2_with (with_reducible refine wpListIn_store (w' := W4) (o := ⟨none, .store 34 (.tmp 7) (.tmp 23), _, _, _, none⟩) rfl 34 (.tmp 7) (.tmp 23) rfl W'.heap.size 0 (.agg f.cs.toArray) ?_ ?_ HS.out ?_)
          all_goals try rfl
          refine ⟨hL4, ?_⟩
          rw [hW5]
          clear hL4 hW5
          gi_wp2
          exact ⟨HL7.out, HZ.out, HT7.out⟩
        · rw [hc] at cX
          have hwq : IntKind.i64.wrap (q3 + 1) = q3 + 1 := HWQ.out 3
          have hT7 : Turns (fun i => i = w.heap.size + 1 ∨ i = w.heap.size + 1 + 1) W5 ((W5.setCell ⟨w.heap.size + 1, 0, none⟩ (.int .i64 ((k : Int) + 1))).setCell ⟨w.heap.size + 1 + 1, 3, none⟩ (.int .i64 (q3 + 1))) (fun i => i = w.heap.size + 1 ∨ i = w.heap.size + 1 + 1) := ((Turns.refl (fun i => i = w.heap.size + 1 ∨ i = w.heap.size + 1 + 1) W5).set (g := w.heap.size + 1) (.inl (.inl rfl)) 0 _).set (g := w.heap.size + 1 + 1) (.inl (.inr rfl)) 3 _
          have HL7 : Hid (((W5.setCell ⟨w.heap.size + 1, 0, none⟩ (.int .i64 ((k : Int) + 1))).setCell ⟨w.heap.size + 1 + 1, 3, none⟩ (.int .i64 (q3 + 1))).heap[S + 1 + 1]? = some (.loop (rc .busy))) := Lib.hid ((hT7.block _ (Array.getElem?_eq_some_iff.1 HL5.out).1 (by omega)).trans HL5.out)
          have HZ : Hid (CtC w w1 B #[.slice a n cap, .slice a' (decL L).length c', .map (some r), .map (some (r + 1)), .map (some (r + 2))] R (k + 1) (kcs (fs.take (k + 1))) ((W5.setCell ⟨w.heap.size + 1, 0, none⟩ (.int .i64 ((k : Int) + 1))).setCell ⟨w.heap.size + 1 + 1, 3, none⟩ (.int .i64 (q3 + 1))) ∧ At ((W5.setCell ⟨w.heap.size + 1, 0, none⟩ (.int .i64 ((k : Int) + 1))).setCell ⟨w.heap.size + 1 + 1, 3, none⟩ (.int .i64 (q3 + 1))) S 63 #[.slice a n cap, .slice a' (decL L).length c', .map (some r), .map (some (r + 1)), .map (some (r + 2))] ∧ ((W5.setCell ⟨w.heap.size + 1, 0, none⟩ (.int .i64 ((k : Int) + 1))).setCell ⟨w.heap.size + 1 + 1, 3, none⟩ (.int .i64 (q3 + 1))).heap[B + 2]? = some (.deferred (some []))) := Lib.hid (by
            refine ⟨⟨(H5.out.t.set (g := w.heap.size + 1) (.inl (.inr (.inl rfl))) 0 _).set (g := w.heap.size + 1 + 1) (.inl (.inr (.inr rfl))) 3 _, hT7.at H5.out.reads (by omega), (H5.out.wrong.set 0 _).far (by simp) _, ?_, hT7.at H5.out.view (by omega)⟩, hT7.at HV5.out (by omega), (hT7.block _ (Array.getElem?_eq_some_iff.1 HD5.out).1 (by omega)).trans HD5.out⟩
            have e : kcs (fs.take (k + 1)) = [q0, q1, q2, q3 + 1, q4] := by
              unfold kcs
              rw [kc_more HF.out, kc_more HF.out, kc_more HF.out, kc_more HF.out, kc_more HF.out, hc, HQ0.out, HQ1.out, HQ2.out, HQ3.out, HQ4.out]
              rfl
            rw [e]
            exact (HA5.out.far (by simp) _).set 3 _)
          have HT7 : Hid (Turns (fun i => (i = w.heap.size + 1 ∨ i = w.heap.size + 1 + 1) ∨ i = S + 1 + 1) W' ((W5.setCell ⟨w.heap.size + 1, 0, none⟩ (.int .i64 ((k : Int) + 1))).setCell ⟨w.heap.size + 1 + 1, 3, none⟩ (.int .i64 (q3 + 1))) (fun i => (i = w.heap.size + 1 ∨ i = w.heap.size + 1 + 1) ∨ i = S + 1 + 1)) := Lib.hid ((HT5.out.set (g := w.heap.size + 1) (.inl (.inl (.inl rfl))) 0 _).set (g := w.heap.size + 1 + 1) (.inl (.inl (.inr rfl))) 3 _)
          clear hT7 hc
          gi_wp2_with (with_reducible refine wpListIn_store (w' := W4) (o := ⟨none, .store 34 (.tmp 7) (.tmp 23), _, _, _, none⟩) rfl 34 (.tmp 7) (.tmp 23) rfl W'.heap.size 0 (.agg f.cs.toArray) ?_ ?_ HS.out ?_)
          all_goals try rfl
          refine ⟨hL4, ?_⟩
          rw [hW5]
          clear hL4 hW5
          gi_wp2
          exact ⟨HL7.out, HZ.out, HT7.out⟩
        · rw [hc] at cX
          have hwq : IntKind.i64.wrap (q4 + 1) = q4 + 1 := HWQ.out 4
          have hT7 : Turns (fun i => i = w.heap.size + 1 ∨ i = w.heap.size + 1 + 1) W5 ((W5.setCell ⟨w.heap.size + 1, 0, none⟩ (.int .i64 ((k : Int) + 1))).setCell ⟨w.heap.size + 1 + 1, 4, none⟩ (.int .i64 (q4 + 1))) (fun i => i = w.heap.size + 1 ∨ i = w.heap.size + 1 + 1) := ((Turns.refl (fun i => i = w.heap.size + 1 ∨ i = w.heap.size + 1 + 1) W5).set (g := w.heap.size + 1) (.inl (.inl rfl)) 0 _).set (g := w.heap.size + 1 + 1) (.inl (.inr rfl)) 4 _
          have HL7 : Hid (((W5.setCell ⟨w.heap.size + 1, 0, none⟩ (.int .i64 ((k : Int) + 1))).setCell ⟨w.heap.size + 1 + 1, 4, none⟩ (.int .i64 (q4 + 1))).heap[S + 1 + 1]? = some (.loop (rc .busy))) := Lib.hid ((hT7.block _ (Array.getElem?_eq_some_iff.1 HL5.out).1 (by omega)).trans HL5.out)
          have HZ : Hid (CtC w w1 B #[.slice a n cap, .slice a' (decL L).length c', .map (some r), .map (some (r + 1)), .map (some (r + 2))] R (k + 1) (kcs (fs.take (k + 1))) ((W5.setCell ⟨w.heap.size + 1, 0, none⟩ (.int .i64 ((k : Int) + 1))).setCell ⟨w.heap.size + 1 + 1, 4, none⟩ (.int .i64 (q4 + 1))) ∧ At ((W5.setCell ⟨w.heap.size + 1, 0, none⟩ (.int .i64 ((k : Int) + 1))).setCell ⟨w.heap.size + 1 + 1, 4, none⟩ (.int .i64 (q4 + 1))) S 63 #[.slice a n cap, .slice a' (decL L).length c', .map (some r), .map (some (r + 1)), .map (some (r + 2))] ∧ ((W5.setCell ⟨w.heap.size + 1, 0, none⟩ (.int .i64 ((k : Int) + 1))).setCell ⟨w.heap.size + 1 + 1, 4, none⟩ (.int .i64 (q4 + 1))).heap[B + 2]? = some (.deferred (some []))) := Lib.hid (by
            refine ⟨⟨(H5.out.t.set (g := w.heap.size + 1) (.inl (.inr (.inl rfl))) 0 _).set (g := w.heap.size + 1 + 1) (.inl (.inr (.inr rfl))) 4 _, hT7.at H5.out.reads (by omega), (H5.out.wrong.set 0 _).far (by simp) _, ?_, hT7.at H5.out.view (by omega)⟩, hT7.at HV5.out (by omega), (hT7.block _ (Array.getElem?_eq_some_iff.1 HD5.out).1 (by omega)).trans HD5.out⟩
            have e : kcs (fs.take (k + 1)) = [q0, q1, q2, q3, q4 + 1] := by
              unfold kcs
              rw [kc_more HF.out, kc_more HF.out, kc_more HF.out, kc_more HF.out, kc_more HF.out, hc, HQ0.out, HQ1.out, HQ2.out, HQ3.out, HQ4.out]
              rfl
            rw [e]
            exact (HA5.out.far (by simp) _).set 4 _)
          have HT7 : Hid (Turns (fun i => (i = w.heap.size + 1 ∨ i = w.heap.size + 1 + 1) ∨ i = S + 1 + 1) W' ((W5.setCell ⟨w.heap.size + 1, 0, none⟩ (.int .i64 ((k : Int) + 1))).setCell ⟨w.heap.size + 1 + 1, 4, none⟩ (.int .i64 (q4 + 1))) (fun i => (i = w.heap.size + 1 ∨ i = w.heap.size + 1 + 1) ∨ i = S + 1 + 1)) := Lib.hid ((HT5.out.set (g := w.heap.size + 1) (.inl (.inl (.inl rfl))) 0 _).set (g := w.heap.size + 1 + 1) (.inl (.inl (.inr rfl))) 4 _)
          clear hT7 hc
          gi_wp2_with (with_reducible refine wpListIn_store (w' := W4) (o := ⟨none, .store 34 (.tmp 7) (.tmp 23), _, _, _, none⟩) rfl 34 (.tmp 7) (.tmp 23) rfl W'.heap.size 0 (.agg f.cs.toArray) ?_ ?_ HS.out ?_)
          all_goals try rfl
          refine ⟨hL4, ?_⟩
          rw [hW5]
          clear hL4 hW5
          gi_wp2
          exact ⟨HL7.out, HZ.out, HT7.out⟩
      case e6 =>
        rintro W2 ⟨h, hv, hd2⟩ hd3 hs2
        rw [hs4] at hd3 hs2 ⊢
        rw [hfs] at h
        rw [List.take_length] at h
        have hgw : Grows w W2 := h.t.low HG.out (fun i hi => by omega)
        obtain ⟨K5, hK5⟩ : ∃ K5 : Array Value, (civ (kcs fs)).toArray = K5 := ⟨_, rfl⟩
        have HK : Hid (K5.size = 5) := Lib.hid (by rw [← hK5]; rfl)
        have HK1 : Hid (K5.all (·.oneCell') = true) := Lib.hid (by rw [← hK5]; exact all_oneCell_toArray (fun v hv => one_ints .i64 _ v hv))
        obtain ⟨N, hN⟩ : ∃ N, fs.length = N := ⟨_, rfl⟩
        rw [hN] at h
        have hk := h.kinds
        rw [hK5] at hk
        have HWG : Hid (At W2 w.heap.size 3 #[.int .i64 (R : Int)] ∧ At W2 (w.heap.size + 1) 3 #[.int .i64 (N : Int)] ∧ At W2 (w.heap.size + 1 + 1) 54 K5 ∧ Grows w W2 ∧ W2.heap[B + 2]? = some (.deferred (some [])) ∧ W2.heap[S + 1]? = some (.deferred (some []))) := Lib.hid ⟨h.reads, h.wrong, hk, hgw, hd2, hd3⟩
        have HFP : Hid (∀ W', Grows w W' → CountP L w (.returned (.tuple #[.int .i64 (R : Int), .int .i64 (N : Int), .agg K5, .int .i64 0])) W') := Lib.hid (fun W' hg => ⟨hg, .inr ⟨HM.out, by rw [hfs, HRR.out, hN, hK5]⟩⟩)
        clear h hv hd2 hd3 hs2 hs4 hgw hk hN hK5 hfs
        dsimp only
        gi_wp2
        refine wpIn_wide.2 ?_
        refine Prd.wp_region_pred (by kernel_rfl) (by kernel_rfl) (by kernel_rfl) _ (fun u => by simp only [List.map, Prd.frL, Act.put, List.setIfInBounds_toArray, List.set_cons_zero, List.set_cons_succ, Nat.zero_add, Nat.reduceAdd]; exact rfl)
          (Prd.pv #[.int .i64 (R : Int), .int .i64 (N : Int), .agg K5, undef, undef, undef, .int .i64 0] [])
          (fun _ => none) (fun W => At W w.heap.size 3 #[.int .i64 (R : Int)] ∧ At W (w.heap.size + 1) 3 #[.int .i64 (N : Int)] ∧ At W (w.heap.size + 1 + 1) 54 K5 ∧ Grows w W ∧ W.heap[B + 2]? = some (.deferred (some [])) ∧ W.heap[S + 1]? = some (.deferred (some []))) (fun _ => True) none
          (fun i W W' => if i = 3 then W' = W.setCell ⟨w.heap.size, 0, none⟩ (.int .i64 (R : Int)) else if i = 4 then W' = W.setCell ⟨w.heap.size + 1, 0, none⟩ (.int .i64 (N : Int)) else if i = 5 then W' = W.setCells (w.heap.size + 1 + 1) 0 K5.toList else W' = W)
          ?g0 trivial (fun _ _ _ _ _ h => h) ?gr (Prd.pv_keep _ trivial) ⟨?s0, ?s1, ?s2, ?s3, ?s4, ?s5, ?s6, trivial⟩ ?dn
        case g0 =>
          obtain ⟨h1, h2, h3, h4, h5, h6⟩ := HWG.out
          exact ⟨h1, h2, h3, h4.drewN _, h5, h6⟩
        case gr =>
          rintro i W1 W' h ⟨h1, h2, h3, h4, h5, h6⟩
          have hwb := HWB.out
          have hsb := HSB.out
          have key : ∀ W', Turns (fun i => i = w.heap.size ∨ i = w.heap.size + 1 ∨ i = w.heap.size + 1 + 1) W1 W' (fun i => i = w.heap.size ∨ i = w.heap.size + 1 ∨ i = w.heap.size + 1 + 1) → Grows w W' ∧ W'.heap[B + 2]? = some (.deferred (some [])) ∧ W'.heap[S + 1]? = some (.deferred (some [])) := fun W' hT =>
            ⟨hT.low h4 (fun i hi => by omega), (hT.block _ (Array.getElem?_eq_some_iff.1 h5).1 (by omega)).trans h5, (hT.block _ (Array.getElem?_eq_some_iff.1 h6).1 (by omega)).trans h6⟩
          split at h
          · subst h
            exact ⟨h1.set 0 _, h2.far (by simp) _, h3.far (show w.heap.size + 1 + 1 ≠ w.heap.size by omega) _, key _ ((Turns.refl _ W1).set (g := w.heap.size) (.inl (.inl rfl)) 0 _)⟩
          · split at h
            · subst h
              exact ⟨h1.far (by simp) _, h2.set 0 _, h3.far (by simp) _, key _ ((Turns.refl _ W1).set (g := w.heap.size + 1) (.inl (.inr (.inl rfl))) 0 _)⟩
            · split at h
              · subst h
                have hT : Turns (fun i => i = w.heap.size + 1 + 1) W1 (W1.setCells (w.heap.size + 1 + 1) 0 K5.toList) (fun i => i = w.heap.size + 1 + 1) := Turns.sets (O := fun i => i = w.heap.size + 1 + 1) (g := w.heap.size + 1 + 1) (.inl rfl) _ 0 (Turns.refl (fun i => i = w.heap.size + 1 + 1) W1)
                exact ⟨hT.at h1 (by omega), hT.at h2 (by omega), At.all (vs := K5.toList) (cs := K5.toList) (by simpa using h3) rfl, key _ (Turns.sets (g := w.heap.size + 1 + 1) (.inl (.inr (.inr rfl))) _ 0 (Turns.refl _ W1))⟩
              · subst h
                exact ⟨h1, h2, h3, h4, h5, h6⟩
        case s0 =>
          intro u W hG _ _ hd K hK
          have cb := hG.1.cell
          clear hd hG
          dsimp only at hK ⊢
          go_simp
          exact hK _ _ rfl rfl
        case s1 =>
          intro u W hG _ _ hd K hK
          have cb := hG.2.1.cell
          clear hd hG
          dsimp only at hK ⊢
          go_simp
          exact hK _ _ rfl rfl
        case s2 =>
          intro u W hG _ _ hd K hK
          exact step_load rfl 54 (.tmp 4) rfl (w.heap.size + 1 + 1) 0 (.agg K5) rfl (run_loadVar_row W _ _ _ _ (0, 0) _ hG.2.2.1 Try.underlying54 rfl (by rw [HK.out]; exact info_k5)) (hK _ _ rfl rfl)
        case s3 =>
          intro u W hG _ _ hd K hK
          obtain ⟨d0, -⟩ := hd
          have e0 : u 0 = .int .i64 (R : Int) := d0 rfl (.inl rfl)
          have cb := hG.1.cell
          have cf := hG.1.frozen
          clear d0 hG
          dsimp only at hK ⊢
          generalize u 0 = x0 at e0 hK ⊢
          subst e0
          go_simp
          exact hK _ _ rfl rfl
        case s4 =>
          intro u W hG _ _ hd K hK
          obtain ⟨d0, -⟩ := hd
          have e0 : u 1 = .int .i64 (N : Int) := d0 rfl (.inl rfl)
          have cb := hG.2.1.cell
          have cf := hG.2.1.frozen
          clear d0 hG
          dsimp only at hK ⊢
          generalize u 1 = x0 at e0 hK ⊢
          subst e0
          go_simp
          exact hK _ _ rfl rfl
        case s5 =>
          intro u W hG _ _ hd K hK
          obtain ⟨d0, -⟩ := hd
          have e0 : u 2 = .agg K5 := d0 rfl (.inl rfl)
          exact step_store_mid rfl 54 (.tmp 4) (.tmp 34) rfl (w.heap.size + 1 + 1) 0 K5 rfl e0 (hG.2.2.1.there 0 _ (Nat.le_of_eq (Nat.zero_add _))) (by rw [HK.out]; exact info_k5) HK1.out (hK _ _ rfl rfl)
        case s6 =>
          intro u W hG _ _ hd K hK
          clear hd hG
          dsimp only at hK ⊢
          go_simp
          exact hK _ _ rfl rfl
        case dn =>
          intro u W hG hall
          obtain ⟨-, -, -, -, -, -, d6, -⟩ := hall
          have e6 : u 6 = .int .i64 0 := d6 rfl
          clear d6
          generalize u 6 = x6 at *
          subst e6
          have HGG := Lib.hid hG
          clear hG
          gi_wp2
          obtain ⟨h1, h2, h3, h4, h5, h6⟩ := HGG.out
          have hwb := HWB.out
          have hsb := HSB.out
          have hT : Turns (fun i => i = B + 2 ∨ i = S + 1) W ((W.putObj (S + 1) (.deferred none)).putObj (B + 2) (.deferred none)) (fun i => i = B + 2 ∨ i = S + 1) := ((Turns.refl (fun i => i = B + 2 ∨ i = S + 1) W).put (g := S + 1) (.inl (.inr rfl)) _).put (g := B + 2) (.inl (.inl rfl)) _
          refine ⟨by simp, .inl ⟨_, _, rfl, run_takeDeferred h6, ?_⟩⟩
          refine ⟨by simp, .inl ⟨_, _, rfl, run_takeDeferred ((World.putObj_heap_other (by omega)).trans h5), ?_⟩⟩
          exact ⟨_, results_count (ty := 3) (tz := 54) (k := .i64) Try.results20 _ _ w.heap.size (w.heap.size + 1) (w.heap.size + 1 + 1) 3 54 (R : Int) (N : Int) K5 _ rfl rfl rfl Try.underlying3 (hT.at h1 (by omega)) (hT.at h2 (by omega)) (hT.at h3 (by omega)) Try.underlying54 rfl (by rw [HK.out]; exact info_k5), HFP.out _ (hT.low h4 (fun i hi => by omega))⟩
end Go.Proofs.Ytfigoeoimefngaa
