/-
  order.tracks.
-/
import Derived.Test.YtcailhkaeledbaaOrC
import Derived.Test.YtcailhkaeledbaaOrD
namespace Go.Proofs.Ytcailhkaeledbaa
open Go.RowKit Go.Maps Go.Shelf
attribute [local go_sem] Oper.semAt_some

theorem At.putObj {w : World} {g : Nat} {t : TypeId} {cs : Array Value} (h : At w g t cs) {r : Nat} (hr : g ≠ r) (o : Obj) : At (w.putObj r o) g t cs := (World.putObj_heap_other hr).trans h
theorem put_size (w : World) (r : Nat) (o : Obj) : (w.putObj r o).heap.size = w.heap.size := by simp [World.putObj]
theorem results_cells2 {P : Program} {fn : Func} {p q : Tmp} {tp tq : TypeId} (h : fn.results = #[.cell p tp, .cell q tq]) (tmps : Array Value) (w : World) (g g' : Nat) (v v' : Value)
    (hp : tmps.getD p undef = .pointer (some ⟨g, 0, none⟩)) (hq : tmps.getD q undef = .pointer (some ⟨g', 0, none⟩)) (h1 : (loadVar tp ⟨g, 0, none⟩).run P w = .ok v w) (h2 : (loadVar tq ⟨g', 0, none⟩).run P w = .ok v' w) :
    (results fn tmps).run P w = .ok (.tuple #[v, v']) w := by
  have hp' : tmps[p]?.getD undef = .pointer (some ⟨g, 0, none⟩) := by simpa using hp
  have hq' : tmps[q]?.getD undef = .pointer (some ⟨g', 0, none⟩) := by simpa using hq
  simp [results, h, hp', hq', asAddr, h1, h2]

/-- Blocks that are neither the map nor rows may turn. -/
theorem Tr.far {W W' : World} {O O' : Nat → Prop} {B m : Nat} {l : List Sn} {V : Nm → Value} (h : Tr W B m l V) (hT : Turns O W W' O') (hm : ¬ O m) (hO : ∀ i, O i → ∀ cur, W.heap[i]? ≠ some (.cells cur 55 (0, 0))) : Tr W' B m l V :=
  h.same (hT.block m h.map.lt hm) (fun n b hb => by
    obtain ⟨cur, h1, _, h2⟩ := own_typed (h.row n) hb
    exact hT.block b h2 (fun e => hO b e cur h1))
theorem At.noCx {W : World} {g : Nat} {t : TypeId} {cs : Array Value} (h : At W g t cs) (ht : t ≠ 55) (cur : Array Value) : W.heap[g]? ≠ some (.cells cur 55 (0, 0)) := fun e => by
  unfold At at h
  rw [h] at e
  injection e with e
  injection e with _ e
  exact ht e
theorem ld_map {w : World} {g : Nat} {v : Value} (h : At w g 44 #[v]) : (loadVar 44 ⟨g, 0, none⟩).run Try.prog w = .ok v w := by
  have hc : w.cell? ⟨g, 0, none⟩ = some v := h.cell 0
  simp [loadVar, isAgg, run_underlying Try.underlying44, go_sem, hc]
theorem ld_bool {w : World} {g : Nat} {v : Value} (h : At w g 4 #[v]) : (loadVar 4 ⟨g, 0, none⟩).run Try.prog w = .ok v w := by
  have hc : w.cell? ⟨g, 0, none⟩ = some v := h.cell 0
  simp [loadVar, isAgg, run_underlying Try.underlying4, go_sem, hc]
theorem mkMap (W : World) : (Instr.makeMap 44 none).run Try.prog W = .ok (.map (some W.heap.size)) (W.alloc (.map #[] 0)) := by kernel_rfl
set_option maxRecDepth 100000 in
set_option maxHeartbeats 4000000 in
theorem tracks_any (L : List Sn) (n : Nat) (hn : L.length = n) (hL : n ≤ 1000000) (hok : ∀ x ∈ L, x.n.ok) (a : Option Addr) (cap : Nat) (w : World) (hr : Rd w a (rowsOf Sn.cs L)) :
    Calls Try.prog 14 #[.slice a n cap] w fun e w' => Grows w w' ∧ ((mayB L = false ∧ e = .returned (.tuple #[.map none, .bool false])) ∨
      (mayB L = true ∧ ∃ m V, e = .returned (.tuple #[.map (some m), .bool true]) ∧ Tr w' w.heap.size m L V)) := by
  have HR := Lib.hid hr
  have HN := Lib.hid hn
  have HOK := Lib.hid hok
  clear hr hn hok
  have hmk := mkMap
  refine (callsIn_wide (n := 5)).1 ?_
  refine callsIn_of_wp_marks Try.func14 rfl trivial ?_ rfl
  simp only [Try.ntmps14, List.size_toArray, List.length_cons, List.length_nil, Nat.reduceAdd, Nat.reduceSub, Array.replicate_succ, Array.replicate_zero, List.push_toArray, List.append_toArray, List.nil_append, List.cons_append]
  gi_wp2_with (refine ⟨trivial, ?_⟩; gi_at_call 17; refine (callsIn_wide.2 (each_any _ _ _ _)).mono ?_; rintro e w' ⟨rfl, rfl⟩)
  clear hmk
  obtain ⟨w3, hw3⟩ : ∃ w3, w3 = ((((w.alloc (.cells #[.map none] 44)).alloc (.cells #[.bool false] 4)).alloc (.map #[] 0)).alloc (.cells #[.map (some (w.heap.size + 1 + 1))] 44)).alloc (.cells #[.slice a n cap] 22) := ⟨_, rfl⟩
  have HG3 : Hid (Grows w w3) := by show Grows w w3; rw [hw3]; exact (((((Grows.refl _).alloc _).alloc _).alloc _).alloc _).alloc _
  have hs3 : w3.heap.size = w.heap.size + 5 := by rw [hw3]; simp
  have HA0 : Hid (At w3 w.heap.size 44 #[.map none]) := by show At _ _ _ _; rw [hw3]; exact ((((At.new w _ _).alloc _).alloc _).alloc _).alloc _
  have HA1 : Hid (At w3 (w.heap.size + 1) 4 #[.bool false]) := by
    show At _ _ _ _
    have := ((((At.new (w.alloc (.cells #[.map none] 44)) 4 #[.bool false]).alloc (.map #[] 0)).alloc (.cells #[.map (some (w.heap.size + 1 + 1))] 44)).alloc (.cells #[.slice a n cap] 22))
    rw [World.size_alloc] at this
    rw [hw3]; exact this
  have HT3 : Hid (Tr w3 w.heap.size (w.heap.size + 1 + 1) [] (fun _ => .slice none 0 0)) := by
    show Tr _ _ _ _ _
    have := ((Tr.made ((w.alloc (.cells #[.map none] 44)).alloc (.cells #[.bool false] 4)) w.heap.size).grows (((Grows.refl _).alloc (.cells #[.map (some (w.heap.size + 1 + 1))] 44)).alloc (.cells #[.slice a n cap] 22)))
    rw [World.size_alloc, World.size_alloc] at this
    rw [hw3]; exact this
  have HA3 : Hid (At w3 (w.heap.size + 1 + 1 + 1) 44 #[.map (some (w.heap.size + 1 + 1))]) := by
    show At _ _ _ _
    have := (At.new (((w.alloc (.cells #[.map none] 44)).alloc (.cells #[.bool false] 4)).alloc (.map #[] 0)) 44 #[.map (some (w.heap.size + 1 + 1))]).alloc (.cells #[.slice a n cap] 22)
    rw [World.size_alloc, World.size_alloc, World.size_alloc] at this
    rw [hw3]; exact this
  have HA4 : Hid (At w3 (w.heap.size + 1 + 1 + 1 + 1) 22 #[.slice a n cap]) := by
    show At _ _ _ _
    have := At.new ((((w.alloc (.cells #[.map none] 44)).alloc (.cells #[.bool false] 4)).alloc (.map #[] 0)).alloc (.cells #[.map (some (w.heap.size + 1 + 1))] 44)) 22 #[.slice a n cap]
    rw [World.size_alloc, World.size_alloc, World.size_alloc, World.size_alloc] at this
    rw [hw3]; exact this
  rw [← hw3]
  clear hw3
  refine wpIn_rfr (gf := 23) (lb := #[.pointer (some ⟨w.heap.size + 1 + 1 + 1 + 1, 0, none⟩)]) rfl (enters_of Try.func23 (by kernel_rfl) rfl) ?_
  intro fn
  generalize hrc : rcd fn (Act.tmps _) _ _ _ _ = rc
  generalize hrr : rcr fn (Act.tmps _) _ _ _ _ = rr
  obtain ⟨D, hD⟩ : ∃ D, w3.heap.size = D := ⟨_, rfl⟩
  obtain ⟨lp, hlp⟩ : ∃ lp, w3.heap.size + 1 = lp := ⟨_, rfl⟩
  obtain ⟨r0, hr0⟩ : ∃ r, w.heap.size = r := ⟨_, rfl⟩
  have HNUM : Hid (D = r0 + 5 ∧ lp = r0 + 6) := by show _ ∧ _; omega
  have HGW : Hid (Grows w3 ((w3.alloc (.deferred (some []))).alloc (.loop (rc .ready)))) := ((Grows.refl _).alloc _).alloc _
  have HL1 : Hid (((w3.alloc (.deferred (some []))).alloc (.loop (rc .ready))).heap[lp]? = some (.loop (rc .ready))) := by
    show _ = _
    have := World.alloc_heap_new (w3.alloc (.deferred (some []))) (.loop (rc .ready))
    rw [World.size_alloc, hlp] at this
    exact this
  have HD1 : Hid (((w3.alloc (.deferred (some []))).alloc (.loop (rc .ready))).heap[D]? = some (.deferred (some []))) := by
    show _ = _
    rw [← hD]
    exact (RowKit.Below.heap_alloc _ _ _ (by simp)).trans (World.alloc_heap_new w3 _)
  rw [hlp, hD, hr0]
  rw [hr0] at HA0 HA1 HT3 HA3 HA4
  clear hs3
  generalize (w3.alloc (.deferred (some []))).alloc (.loop (rc .ready)) = W1 at *
  have HG1 := Lib.hid (HG3.out.trans HGW.out)
  refine (each1_any lp (r0 + 1 + 1 + 1 + 1) 3 a cap L n HN.out W1 hL
    (fun k W => ∃ V, Tr W r0 (r0 + 1 + 1) (L.take k) V ∧ Grows w W ∧ At W r0 44 #[.map none] ∧ At W (r0 + 1) 4 #[.bool false] ∧ At W (r0 + 1 + 1 + 1) 44 #[.map (some (r0 + 1 + 1))] ∧ W.heap[D]? = some (.deferred (some [])) ∧ W.heap[lp]? = some (.loop (rc .ready)) ∧ ∀ i, i < k → okAt L i = true)
    (fun W => Grows w W ∧ At W r0 44 #[.map none] ∧ At W (r0 + 1) 4 #[.bool false] ∧ W.heap[D]? = some (.deferred (some [])) ∧ W.heap[lp]? = some (.loop (rr .done)) ∧ mayB L = false)
    ((HA4.out.grows HGW.out).cell 0) ⟨_, HT3.out.grows HGW.out, HG1.out, HA0.out.grows HGW.out, HA1.out.grows HGW.out, HA3.out.grows HGW.out, HD1.out, HL1.out, fun i hi => by omega⟩ ?_ ?_ ?_).mono ?_
  · rintro k W W' ⟨V, h1, h2, h3, h4, h5, h6, h7, h8⟩ hg
    exact ⟨V, h1.grows hg, h2.trans hg, h3.grows hg, h4.grows hg, h5.grows hg, (hg.block _ (Array.getElem?_eq_some_iff.1 h6).1).trans h6, (hg.block _ (Array.getElem?_eq_some_iff.1 h7).1).trans h7, h8⟩
  · rintro k W ⟨V, h1, h2, _⟩
    exact HR.out.grows h2
  · rintro k W' x hx ⟨V, hT, hG, hA0, hA1, hA3, hD', hl', hall⟩
    have hn9 := HNUM.out
    have hlen : k < L.length := by
      rcases Nat.lt_or_ge k L.length with h | h
      · exact h
      · rw [List.getElem?_eq_none h] at hx; cases hx
    have hxo : x.n.ok := HOK.out x (List.mem_of_getElem? hx)
    have htk : (L.take k).length = k := by rw [List.length_take]; omega
    have htk1 : L.take (k + 1) = L.take k ++ [x] := by rw [List.take_add_one, hx]; rfl
    have hokk : okAt L k = (namedB x.n && okS x (tk (L.take k) x.n)) := by unfold okAt; rw [hx]
    -- the world of the body
    obtain ⟨W5, hW5⟩ : ∃ W5, W5 = (W'.alloc (.cells x.cs.toArray 37)).putObj lp (.loop (rc .busy)) := ⟨_, rfl⟩
    have hTu5 : Turns (fun i => i = lp) W' W5 (fun _ => False) := by
      rw [hW5]
      exact ((((Turns.refl (fun i => i = lp) W').alloc _).put (.inl rfl) _).wide (fun _ h => h) (fun _ h => h.elim))
    have HG5 := Lib.hid (hTu5.low hG (fun i hi => by omega))
    have HT5 := Lib.hid (hT.far hTu5 (by omega) (fun i hi cur e => by subst hi; rw [hl'] at e; cases e))
    have HA05 := Lib.hid (hTu5.at hA0 (by omega))
    have HA15 := Lib.hid (hTu5.at hA1 (by omega))
    have HA35 := Lib.hid (hTu5.at hA3 (by omega))
    have HD5 : Hid (W5.heap[D]? = some (.deferred (some []))) := (hTu5.block D (Array.getElem?_eq_some_iff.1 hD').1 (by omega)).trans hD'
    have HL5 : Hid (W5.heap[lp]? = some (.loop (rc .busy))) := by show _ = _; rw [hW5]; exact World.putObj_heap_same (by have := (Array.getElem?_eq_some_iff.1 hl').1; simp; omega)
    have hlW : lp < W'.heap.size := (Array.getElem?_eq_some_iff.1 hl').1
    have HX5 : Hid (At W5 W'.heap.size 37 x.cs.toArray) := by show At _ _ _ _; rw [hW5]; exact (At.new W' _ _).putObj (by omega) _
    have hs5 : W5.heap.size = W'.heap.size + 1 := by rw [hW5, put_size, World.size_alloc]
    have HL' : Hid ((W'.alloc (.cells x.cs.toArray 37)).heap[lp]? = some (.loop (rc .ready))) := (RowKit.Below.heap_alloc _ _ _ hlW).trans hl'
    refine yield_roundr hrc hrr hl' _ rfl _ ?_
    clear hrc hrr hTu5 hT hG hA0 hA1 hA3 hD' hl'
    obtain ⟨av, cv, hv, _⟩ := own_slice (HT5.out.row x.n)
    obtain ⟨t, ht⟩ : ∃ t, t = tk (L.take k) x.n := ⟨_, rfl⟩
    have hlk := HT5.out.look hxo
    rw [← ht, hv] at hlk
    have HRW := HT5.out.row x.n
    rw [hv] at HRW
    have HTT := Lib.hid ht
    have HVV := Lib.hid hv
    have HOKK := Lib.hid hokk
    rw [← ht] at HOKK
    have HALL := Lib.hid hall
    have HTK1 := Lib.hid htk1
    have HTK := Lib.hid htk
    have HROW := Lib.hid HRW
    have HXO := Lib.hid hxo
    have HSZ := Lib.hid hs5
    have HLEN := Lib.hid hlen
    have HSTOP : Hid (∀ Wx, Grows w Wx → At Wx r0 44 #[.map none] → At Wx (r0 + 1) 4 #[.bool false] → Wx.heap[D]? = some (.deferred (some [])) → Wx.heap[lp]? = some (.loop (rc .busy)) → okAt L k = false →
        ((Wx.setCell ⟨r0, 0, none⟩ (.map none)).setCell ⟨r0 + 1, 0, none⟩ (.bool false)).heap[lp]? = some (.loop (rc .busy)) ∧
        (Grows w (((Wx.setCell ⟨r0, 0, none⟩ (.map none)).setCell ⟨r0 + 1, 0, none⟩ (.bool false)).putObj lp (.loop (rr .done))) ∧ At (((Wx.setCell ⟨r0, 0, none⟩ (.map none)).setCell ⟨r0 + 1, 0, none⟩ (.bool false)).putObj lp (.loop (rr .done))) r0 44 #[.map none] ∧ At (((Wx.setCell ⟨r0, 0, none⟩ (.map none)).setCell ⟨r0 + 1, 0, none⟩ (.bool false)).putObj lp (.loop (rr .done))) (r0 + 1) 4 #[.bool false] ∧ (((Wx.setCell ⟨r0, 0, none⟩ (.map none)).setCell ⟨r0 + 1, 0, none⟩ (.bool false)).putObj lp (.loop (rr .done))).heap[D]? = some (.deferred (some [])) ∧ (((Wx.setCell ⟨r0, 0, none⟩ (.map none)).setCell ⟨r0 + 1, 0, none⟩ (.bool false)).putObj lp (.loop (rr .done))).heap[lp]? = some (.loop (rr .done)) ∧ mayB L = false)) := fun Wx g1 g2 g3 g4 g5 g6 => by
      have hn := HNUM.out
      have e1 : ((Wx.setCell ⟨r0, 0, none⟩ (.map none)).setCell ⟨r0 + 1, 0, none⟩ (.bool false)).heap[lp]? = some (.loop (rc .busy)) := (RowKit.Below.heap_setCell _ _ _ _ (by simp; omega)).trans ((RowKit.Below.heap_setCell _ _ _ _ (by simp; omega)).trans g5)
      refine ⟨e1, ?_, ?_, ?_, ?_, World.putObj_heap_same (Array.getElem?_eq_some_iff.1 e1).1, ?_⟩
      · exact ((((Turns.refl (fun i => i = r0 ∨ i = r0 + 1 ∨ i = lp) Wx).set (.inl (.inl rfl)) 0 _).set (.inl (.inr (.inl rfl))) 0 _).put (.inl (.inr (.inr rfl))) _).low g1 (fun i hi => by omega)
      · exact At.putObj ((g2.set 0 _).far (by simp) _) (by omega) _
      · exact At.putObj ((g3.far (by simp) _).set 0 _) (by omega) _
      · exact (World.putObj_heap_other (by omega)).trans ((RowKit.Below.heap_setCell _ _ _ _ (by simp; omega)).trans ((RowKit.Below.heap_setCell _ _ _ _ (by simp; omega)).trans g4))
      · unfold mayB
        rw [List.all_eq_false]
        exact ⟨k, List.mem_range.2 HLEN.out, by rw [g6]; simp⟩
    have c3 : W5.cell? ⟨r0 + 1 + 1 + 1, 0, none⟩ = some (.map (some (r0 + 1 + 1))) := HA35.out.cell 0
    have cX := HX5.out.cell
    have HKN : Hid (k ≤ 1000000) := by show _ ≤ _; have := HN.out; omega
    have hlt5 : W'.heap.size < W5.heap.size := by omega
    clear ht hv hokk hall htk1 htk HRW hxo hlen hn9 hs5 hlW hx hL
    unfold Nm.v Tk.cs at hlk
    unfold Sn.cs at HL' cX hW5 ⊢
    have hcX := cX
    clear cX
    gi_wp2
    refine ⟨HL'.out, ?_⟩
    rw [← hW5]
    clear hW5
    have cX := hcX
    clear hcX
    cases hnm : namedB x.n
    · have HNM : Hid (∀ W, Calls Try.prog 18 #[x.n.v] W fun e w' => e = .returned (.bool false) ∧ Grows W w') := fun W => by have := named_any x.n W; rwa [hnm] at this
      unfold Nm.v at HNM
      gi_wp2_with (refine ⟨trivial, ?_⟩; gi_at_call 18; refine (callsIn_wide.2 (HNM.out _)).mono ?_; rintro e w7 ⟨rfl, hg7⟩)
      have hG7 := ((Grows.refl W5).alloc _).trans hg7
      have hA07 := HA05.out.grows hG7
      have hA17 := HA15.out.grows hG7
      have HQ := Lib.hid (HSTOP.out w7 (HG5.out.trans hG7) hA07 hA17 ((hG7.block _ (Array.getElem?_eq_some_iff.1 HD5.out).1).trans HD5.out) ((hG7.block _ (Array.getElem?_eq_some_iff.1 HL5.out).1).trans HL5.out) (by rw [HOKK.out, hnm]; rfl))
      have c07 : w7.cell? ⟨r0, 0, none⟩ = some (.map none) := hA07.cell 0
      have f07 := hA07.frozen 0
      have c17 : w7.cell? ⟨r0 + 1, 0, none⟩ = some (.bool false) := hA17.cell 0
      have f17 := hA17.frozen 0
      clear hG7 hA07 hA17 hg7
      refine ⟨trivial, ?_⟩
      gi_wp2
      exact ⟨HQ.out.1, HQ.out.2⟩
    · have HNM : Hid (∀ W, Calls Try.prog 18 #[x.n.v] W fun e w' => e = .returned (.bool true) ∧ Grows W w') := fun W => by have := named_any x.n W; rwa [hnm] at this
      unfold Nm.v at HNM
      gi_wp2_with (refine ⟨trivial, ?_⟩; gi_at_call 18; refine (callsIn_wide.2 (HNM.out _)).mono ?_; rintro e w7 ⟨rfl, hg7⟩; have hG7 := ((Grows.refl W5).alloc _).trans hg7; have cX7 := (HX5.out.grows hG7).cell; unfold Sn.cs at cX7; have HG7 := Lib.hid hG7; have HT7 := Lib.hid ((At.new W5 _ _).grows hg7); clear hG7 hg7 cX)
      have hn9 := HNUM.out
      have hstep := step_any W5.heap.size r0 t (.slice av (st (L.take k) x.n).length cv) (stc (st (L.take k) x.n)) x k w7 HT7.out (by rw [stc_len]; exact own_grows HROW.out HG7.out) (by have h1 := HG5.out.size; have h2 := HG7.out.size; omega) (by rw [stc_len]; have h1 := st_len (L.take k) x.n; have h2 := HTK.out; have h3 := HKN.out; omega)
      have HSTEP := Lib.hid hstep
      unfold Sn.cs at HSTEP
      clear hstep cX7
      refine ⟨trivial, ?_⟩
      refine (callsIn_wide.2 HSTEP.out).mono ?_
      rintro e w8 ⟨rfl, t', v', xs', h1, h2, h3, h4, h5⟩
      have hrow7 := own_grows HROW.out HG7.out
      have hA07 := HA05.out.grows HG7.out
      have hA17 := HA15.out.grows HG7.out
      have hA37 := HA35.out.grows HG7.out
      have hD7 : w7.heap[D]? = some (.deferred (some [])) := (HG7.out.block _ (Array.getElem?_eq_some_iff.1 HD5.out).1).trans HD5.out
      have hL7 : w7.heap[lp]? = some (.loop (rc .busy)) := (HG7.out.block _ (Array.getElem?_eq_some_iff.1 HL5.out).1).trans HL5.out
      have hX7 := HX5.out.grows HG7.out
      have hlt : ∀ i, i < W5.heap.size → (∀ cur, w7.heap[i]? ≠ some (.cells cur 55 (0, 0))) → w8.heap[i]? = w7.heap[i]? := fun i hi hc => h5.block i (Nat.lt_of_lt_of_le hi HG7.out.size) (fun e => by
        rcases e with e | e
        · omega
        · obtain ⟨cur, q, _⟩ := own_typed hrow7 e
          exact hc cur q)
      have hA08 : At w8 r0 44 #[.map none] := (hlt r0 HA05.out.lt (hA07.noCx (by decide))).trans hA07
      have hA18 : At w8 (r0 + 1) 4 #[.bool false] := (hlt _ HA15.out.lt (hA17.noCx (by decide))).trans hA17
      have hA38 : At w8 (r0 + 1 + 1 + 1) 44 #[.map (some (r0 + 1 + 1))] := (hlt _ HA35.out.lt (hA37.noCx (by decide))).trans hA37
      have hX8 : At w8 W'.heap.size 37 x.cs.toArray := (hlt _ HX5.out.lt (hX7.noCx (by decide))).trans hX7
      have hD8 : w8.heap[D]? = some (.deferred (some [])) := (hlt D (Array.getElem?_eq_some_iff.1 HD5.out).1 (fun cur e => by rw [hD7] at e; cases e)).trans hD7
      have hL8 : w8.heap[lp]? = some (.loop (rc .busy)) := (hlt lp (Array.getElem?_eq_some_iff.1 HL5.out).1 (fun cur e => by rw [hL7] at e; cases e)).trans hL7
      have hGw8 : Grows w w8 := h5.low (HG5.out.trans HG7.out) (fun i hi => by
        rcases hi with hi | hi
        · have := HG5.out.size; omega
        · obtain ⟨_, _, q, _⟩ := own_typed hrow7 hi
          omega)
      have c08 : w8.cell? ⟨r0, 0, none⟩ = some (.map none) := hA08.cell 0
      have f08 := hA08.frozen 0
      have c18 : w8.cell? ⟨r0 + 1, 0, none⟩ = some (.bool false) := hA18.cell 0
      have f18 := hA18.frozen 0
      cases hok : okS x t
      · have HQ := Lib.hid (HSTOP.out w8 hGw8 hA08 hA18 hD8 hL8 (by rw [HOKK.out, hnm, hok]; rfl))
        clear h1 h2 h3 h4 h5 hrow7 hA07 hA17 hA37 hD7 hL7 hX7 hlt hA08 hA18 hA38 hX8 hD8 hL8 hGw8 hn9 hok hlk c3
        gi_wp2
        exact ⟨HQ.out.1, HQ.out.2⟩
      · obtain ⟨rfl, hxs'⟩ := h3 hok
        have hst : stc (st (L.take k ++ [x]) x.n) = xs' := by
          rw [hxs', st_snoc, HTK.out]
          cases hrb : rwB x <;> simp [stc]
        obtain ⟨av', cv', rfl, _⟩ := own_slice h2
        have hTr7 := HT5.out.grows HG7.out
        obtain ⟨es7, cl7, hm7⟩ := hTr7.map.block
        have hm8 := hTr7.map.same (hlt (r0 + 1 + 1) HT5.out.map.lt (fun cur e => by rw [hm7] at e; cases e))
        obtain ⟨w9, hrun9, hm9, ht9⟩ := hm8.store nameLaw Try.underlying44 (((L.take k).map Sn.n).reverse.map Nm.lit) fT_mem (by have h1 := HTK.out; have h2 := HKN.out; simp [maxLen]; omega) (name_key x.n HXO.out) (v := .agg ((nxt k x t).cs (.slice av' xs'.length cv')))
        have hTr9 := hTr7.next (x := x) (w1 := w8) (w2 := w9) (g := W5.heap.size) (v' := .slice av' xs'.length cv') HXO.out (by rw [hst]; exact h2) (by rw [HVV.out]; rcases h4 with h4 | ⟨j, h4, h4'⟩; exact .inl h4; exact .inr ⟨j, h4, h4'⟩) (by rw [HVV.out]; exact h5) ⟨_, HT7.out⟩ (by rw [HTK.out, ← HTT.out]; exact hm9) ht9
        have g9 := ht9.grown
        have hne : ∀ i, i < w8.heap.size → i ≠ r0 + 1 + 1 → w9.heap[i]? = w8.heap[i]? := fun i hi e => g9.block i hi (fun q => e (by injection q))
        have hA09 : At w9 r0 44 #[.map none] := (hne _ hA08.lt (by omega)).trans hA08
        have hA19 : At w9 (r0 + 1) 4 #[.bool false] := (hne _ hA18.lt (by omega)).trans hA18
        have hA39 : At w9 (r0 + 1 + 1 + 1) 44 #[.map (some (r0 + 1 + 1))] := (hne _ hA38.lt (by omega)).trans hA38
        have hD9 : w9.heap[D]? = some (.deferred (some [])) := (hne D (Array.getElem?_eq_some_iff.1 hD8).1 (by omega)).trans hD8
        have hL9 : w9.heap[lp]? = some (.loop (rc .busy)) := (hne lp (Array.getElem?_eq_some_iff.1 hL8).1 (by omega)).trans hL8
        have hG9 : Grows w w9 := ⟨g9.os.trans hGw8.os, g9.tape.trans hGw8.tape, g9.output.trans hGw8.output, Nat.le_trans hGw8.size g9.size, fun i hi => (hne i (Nat.lt_of_lt_of_le hi hGw8.size) (by omega)).trans (hGw8.block i hi)⟩
        have hTu : Turns (fun i => i = lp) w9 (w9.putObj lp (.loop (rc .ready))) (fun _ => False) := ((Turns.refl (fun i => i = lp) w9).put (.inl rfl) _).wide (fun _ h => h) (fun _ h => h.elim)
        have HJ : Hid (w9.heap[lp]? = some (.loop (rc .busy)) ∧ ∃ V, Tr (w9.putObj lp (.loop (rc .ready))) r0 (r0 + 1 + 1) (L.take (k + 1)) V ∧ Grows w (w9.putObj lp (.loop (rc .ready))) ∧ At (w9.putObj lp (.loop (rc .ready))) r0 44 #[.map none] ∧ At (w9.putObj lp (.loop (rc .ready))) (r0 + 1) 4 #[.bool false] ∧ At (w9.putObj lp (.loop (rc .ready))) (r0 + 1 + 1 + 1) 44 #[.map (some (r0 + 1 + 1))] ∧ (w9.putObj lp (.loop (rc .ready))).heap[D]? = some (.deferred (some [])) ∧ (w9.putObj lp (.loop (rc .ready))).heap[lp]? = some (.loop (rc .ready)) ∧ ∀ i, i < k + 1 → okAt L i = true) := by
          refine ⟨hL9, fun n' => if n' = x.n then .slice av' xs'.length cv' else V n', ?_, hTu.low hG9 (fun i hi => by omega), hA09.putObj (by omega) _, hA19.putObj (by omega) _, hA39.putObj (by omega) _, (World.putObj_heap_other (by omega)).trans hD9, World.putObj_heap_same (Array.getElem?_eq_some_iff.1 hL9).1, fun i hi => ?_⟩
          · have := hTr9.far hTu (by omega) (fun i hi cur e => by subst hi; rw [hL9] at e; cases e)
            rwa [← HTK1.out] at this
          · rcases Nat.lt_or_ge i k with h | h
            · exact HALL.out i h
            · rw [show i = k by omega, HOKK.out, hnm, hok]; rfl
        have c38 : w8.cell? ⟨r0 + 1 + 1 + 1, 0, none⟩ = some (.map (some (r0 + 1 + 1))) := hA38.cell 0
        have cX8 := hX8.cell
        have cT8 := h1.cell
        unfold Sn.cs at cX8
        unfold Tk.cs at cT8 hrun9
        unfold Nm.v at hrun9
        clear h1 h2 h4 h5 hrow7 hA07 hA17 hA37 hD7 hL7 hX7 hlt hA08 hA18 hA38 hX8 hD8 hL8 hGw8 hn9 hok hlk c3 hst hTr7 hm7 hm8 hm9 ht9 hTr9 g9 hne hA09 hA19 hA39 hD9 hL9 hG9 hTu hxs' h3
        gi_wp2
        obtain ⟨q1, V', q2, q3⟩ := HJ.out
        exact ⟨q1, ⟨V', q2⟩, q3⟩
  · rintro e W ⟨⟨v, rfl⟩, ⟨V, h1, h2, h3, h4, h5, h6, h7, h8⟩ | ⟨h1, h2, h3, h4, h5, h6⟩⟩
    · refine ⟨⟨_, rfl⟩, .inl ⟨h7, ?_⟩⟩
      have hTu : Turns (fun i => i = lp ∨ i = D ∨ i = r0 ∨ i = r0 + 1) W ((((W.putObj lp (.loop (rc .exhausted))).setCell ⟨r0, 0, none⟩ (.map (some (r0 + 1 + 1)))).setCell ⟨r0 + 1, 0, none⟩ (.bool true)).putObj D (.deferred none)) (fun _ => False) :=
        (((((Turns.refl _ W).put (.inl (.inl rfl)) _).set (.inl (.inr (.inr (.inl rfl)))) 0 _).set (.inl (.inr (.inr (.inr rfl)))) 0 _).put (.inl (.inr (.inl rfl))) _).wide (fun _ h => h) (fun _ h => h.elim)
      have hn9 := HNUM.out
      have HFIN : Hid (Grows w ((((W.putObj lp (.loop (rc .exhausted))).setCell ⟨r0, 0, none⟩ (.map (some (r0 + 1 + 1)))).setCell ⟨r0 + 1, 0, none⟩ (.bool true)).putObj D (.deferred none)) ∧ mayB L = true ∧ Tr ((((W.putObj lp (.loop (rc .exhausted))).setCell ⟨r0, 0, none⟩ (.map (some (r0 + 1 + 1)))).setCell ⟨r0 + 1, 0, none⟩ (.bool true)).putObj D (.deferred none)) r0 (r0 + 1 + 1) L V) := by
        refine ⟨hTu.low h2 (fun i hi => by omega), ?_, ?_⟩
        · unfold mayB
          rw [List.all_eq_true]
          intro i hi
          exact h8 i (by rw [← HN.out]; exact List.mem_range.1 hi)
        · have := h1.far hTu (by omega) (fun i hi cur e => by
            rcases hi with rfl | rfl | rfl | rfl
            · rw [h7] at e; cases e
            · rw [h6] at e; cases e
            · exact h3.noCx (by decide) cur e
            · exact h4.noCx (by decide) cur e)
          rwa [List.take_of_length_le (by rw [HN.out]; exact Nat.le_refl _)] at this
      obtain ⟨W7, hW7⟩ : ∃ W7, W7 = W.putObj lp (.loop (rc .exhausted)) := ⟨_, rfl⟩
      rw [← hW7] at HFIN ⊢
      have k3 : At W7 r0 44 #[.map none] := by rw [hW7]; exact h3.putObj (by omega) _
      have k4 : At W7 (r0 + 1) 4 #[.bool false] := by rw [hW7]; exact h4.putObj (by omega) _
      have k5 : At W7 (r0 + 1 + 1 + 1) 44 #[.map (some (r0 + 1 + 1))] := by rw [hW7]; exact h5.putObj (by omega) _
      have k6 : W7.heap[D]? = some (.deferred (some [])) := by rw [hW7]; exact (World.putObj_heap_other (by omega)).trans h6
      have c3 : W7.cell? ⟨r0, 0, none⟩ = some (.map none) := k3.cell 0
      have f3 := k3.frozen 0
      have c4 : W7.cell? ⟨r0 + 1, 0, none⟩ = some (.bool false) := k4.cell 0
      have f4 := k4.frozen 0
      have c5 : W7.cell? ⟨r0 + 1 + 1 + 1, 0, none⟩ = some (.map (some (r0 + 1 + 1))) := k5.cell 0
      have HD9 : Hid (((W7.setCell ⟨r0, 0, none⟩ (.map (some (r0 + 1 + 1)))).setCell ⟨r0 + 1, 0, none⟩ (.bool true)).heap[D]? = some (.deferred (some []))) := (RowKit.Below.heap_setCell _ _ _ _ (by simp; omega)).trans ((RowKit.Below.heap_setCell _ _ _ _ (by simp; omega)).trans k6)
      have HA9 : Hid (At (((W7.setCell ⟨r0, 0, none⟩ (.map (some (r0 + 1 + 1)))).setCell ⟨r0 + 1, 0, none⟩ (.bool true)).putObj D (.deferred none)) r0 44 #[.map (some (r0 + 1 + 1))]) := At.putObj ((k3.set 0 _).far (by simp) _) (by omega) _
      have HB9 : Hid (At (((W7.setCell ⟨r0, 0, none⟩ (.map (some (r0 + 1 + 1)))).setCell ⟨r0 + 1, 0, none⟩ (.bool true)).putObj D (.deferred none)) (r0 + 1) 4 #[.bool true]) := At.putObj ((k4.far (by simp) _).set 0 _) (by omega) _
      clear hW7 k3 k4 k5 k6 h1 h2 h3 h4 h5 h6 h7 h8 hTu hn9 hrc hrr
      gi_wp2
      refine ⟨by simp, .inl ⟨_, _, rfl, run_takeDeferred HD9.out, ?_⟩⟩
      obtain ⟨q1, q2, q3⟩ := HFIN.out
      exact ⟨_, results_cells2 rfl _ _ r0 (r0 + 1) _ _ rfl rfl (ld_map HA9.out) (ld_bool HB9.out), q1, .inr ⟨q2, _, V, rfl, by rw [hr0]; exact q3⟩⟩
    · refine ⟨⟨_, rfl⟩, .inr ⟨h5, ?_⟩⟩
      have hn9 := HNUM.out
      have hTu : Turns (fun i => i = lp ∨ i = D) W ((W.putObj lp (.loop (rr .exhausted))).putObj D (.deferred none)) (fun _ => False) :=
        (((Turns.refl _ W).put (.inl (.inl rfl)) _).put (.inl (.inr rfl)) _).wide (fun _ h => h) (fun _ h => h.elim)
      have q1 := hTu.low h1 (fun i hi => by omega)
      have k6 : (W.putObj lp (.loop (rr .exhausted))).heap[D]? = some (.deferred (some [])) := (World.putObj_heap_other (by omega)).trans h4
      have q2 : At ((W.putObj lp (.loop (rr .exhausted))).putObj D (.deferred none)) r0 44 #[.map none] := (h2.putObj (by omega) _).putObj (by omega) _
      have q3 : At ((W.putObj lp (.loop (rr .exhausted))).putObj D (.deferred none)) (r0 + 1) 4 #[.bool false] := (h3.putObj (by omega) _).putObj (by omega) _
      clear hrc hrr
      gi_wp2
      refine ⟨by simp, .inl ⟨_, _, rfl, run_takeDeferred k6, ?_⟩⟩
      exact ⟨_, results_cells2 rfl _ _ r0 (r0 + 1) _ _ rfl rfl (ld_map q2) (ld_bool q3), q1, .inl ⟨h6, rfl⟩⟩
end Go.Proofs.Ytcailhkaeledbaa
