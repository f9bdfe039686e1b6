/-
  order.Ahead.
-/
import Derived.Test.YtcailhkaeledbaaOrE
import Derived.Test.YtcailhkaeledbaaOrJ
import Derived.Test.YtcailhkaeledbaaOrN
namespace Go.Proofs.Ytcailhkaeledbaa
open Go.RowKit Go.Maps Go.Shelf
attribute [local go_sem] Oper.semAt_some

/-- a's answer stands ahead of b's begin. -/
def aheadL (a b : Nm) (l : List Sn) : Bool := match l.findIdx? (stB 0 b) with | some i => (l.take i).any (stB 4 a) | none => false
theorem ahead_some {a b : Nm} {l : List Sn} {k : Nat} {x : Sn} (hx : l[k]? = some x) (h : stB 0 b x = true) (hno : ∀ (j : Nat) (z : Sn), j < k → l[j]? = some z → stB 0 b z = false) : aheadL a b l = (l.take k).any (stB 4 a) := by
  obtain ⟨hk, rfl⟩ := List.getElem?_eq_some_iff.1 hx
  unfold aheadL
  rw [List.findIdx?_eq_some_iff_getElem.2 ⟨hk, h, fun j hj => by simp [hno j _ hj (List.getElem?_eq_getElem (by omega))]⟩]
theorem ahead_none {a b : Nm} {l : List Sn} (hno : ∀ (j : Nat) (z : Sn), l[j]? = some z → stB 0 b z = false) : aheadL a b l = false := by
  unfold aheadL
  rw [List.findIdx?_eq_none_iff.2 fun x hx => by
    obtain ⟨i, hi⟩ := List.getElem?_of_mem hx
    exact hno i x hi]
theorem results_cell1 {P : Program} {fn : Func} {p : Tmp} {tp : TypeId} (h : fn.results = #[.cell p tp]) (tmps : Array Value) (w : World) (g : Nat) (v : Value)
    (hp : tmps.getD p undef = .pointer (some ⟨g, 0, none⟩)) (h1 : (loadVar tp ⟨g, 0, none⟩).run P w = .ok v w) :
    (results fn tmps).run P w = .ok v w := by
  have hp' : tmps[p]?.getD undef = .pointer (some ⟨g, 0, none⟩) := by simpa using hp
  simp [results, h, hp', asAddr, h1]
set_option maxRecDepth 100000 in
set_option maxHeartbeats 4000000 in
theorem ahead_any (L : List Sn) (n : Nat) (hn : L.length = n) (hL : n ≤ 1000000) (hok : ∀ x ∈ L, x.n.ok) (a : Option Addr) (cap : Nat) (p q : Nm) (w : World) (hr : Rd w a (rowsOf Sn.cs L)) (hm : mayB L = true) :
    Calls Try.prog 11 #[.slice a n cap, p.v, q.v] w fun e w' => e = .returned (.bool (aheadL p q L)) ∧ Grows w w' := by
  have HR := Lib.hid hr
  have HM := Lib.hid (fun W (hg : Grows w W) => may_any L n hn hL hok a cap W (hr.grows hg))
  rw [hm] at HM
  have HN := Lib.hid hn
  clear hr hn hok hm
  refine (callsIn_wide (n := 5)).1 ?_
  refine callsIn_of_wp_marks Try.func11 rfl trivial ?_ rfl
  unfold Nm.v
  simp only [Try.ntmps11, List.size_toArray, List.length_cons, List.length_nil, Nat.reduceAdd, Nat.reduceSub, Array.replicate_succ, Array.replicate_zero, List.push_toArray, List.append_toArray, List.nil_append, List.cons_append]
  have HG0 := Lib.hid ((((Grows.refl w).alloc (.cells #[.int .i64 p.s, .int .i64 p.i, .int .i64 p.t] 31)).alloc (.cells #[.int .i64 q.s, .int .i64 q.i, .int .i64 q.t] 31)).alloc (.cells #[.bool false] 4))
  have HP0 := Lib.hid (((At.new w 31 #[.int .i64 p.s, .int .i64 p.i, .int .i64 p.t]).alloc (.cells #[.int .i64 q.s, .int .i64 q.i, .int .i64 q.t] 31)).alloc (.cells #[.bool false] 4))
  have HQ0 := Lib.hid ((At.new (w.alloc (.cells #[.int .i64 p.s, .int .i64 p.i, .int .i64 p.t] 31)) 31 #[.int .i64 q.s, .int .i64 q.i, .int .i64 q.t]).alloc (.cells #[.bool false] 4))
  have HB0 := Lib.hid (At.new ((w.alloc (.cells #[.int .i64 p.s, .int .i64 p.i, .int .i64 p.t] 31)).alloc (.cells #[.int .i64 q.s, .int .i64 q.i, .int .i64 q.t] 31)) 4 #[.bool false])
  rw [World.size_alloc] at HQ0
  rw [World.size_alloc, World.size_alloc] at HB0
  gi_wp2_with fail
  refine ⟨trivial, ?_⟩
  refine (callsIn_wide.2 (HM.out _ HG0.out)).mono ?_
  rintro e w1 ⟨rfl, hg1⟩
  have HP1 := Lib.hid (HP0.out.grows hg1)
  have HQ1 := Lib.hid (HQ0.out.grows hg1)
  have HB1 := Lib.hid (HB0.out.grows hg1)
  have HG1 := Lib.hid (HG0.out.trans hg1)
  have HS1 : Hid (w.heap.size + 1 + 1 < w1.heap.size) := Lib.hid HB1.out.lt
  clear HP0 HQ0 HB0 HG0 hg1 HM
  gi_wp2_with (refine ⟨trivial, ?_⟩; gi_at_call 17; refine (callsIn_wide.2 (each_any _ _ _ _)).mono ?_; rintro e w' ⟨rfl, rfl⟩)
  obtain ⟨w3, hw3⟩ : ∃ w3, w3 = (w1.alloc (.cells #[.bool false] 4)).alloc (.cells #[.slice a n cap] 22) := ⟨_, rfl⟩
  have hgr : Grows w1 w3 := by rw [hw3]; exact ((Grows.refl _).alloc _).alloc _
  have HG3 := Lib.hid (HG1.out.trans hgr)
  have hs3 : w3.heap.size = w1.heap.size + 2 := by rw [hw3]; simp
  have HP3 := Lib.hid (HP1.out.grows hgr)
  have HQ3 := Lib.hid (HQ1.out.grows hgr)
  have HB3 := Lib.hid (HB1.out.grows hgr)
  have HA3 : Hid (At w3 w1.heap.size 4 #[.bool false]) := Lib.hid (by rw [hw3]; exact (At.new w1 _ _).alloc _)
  have HE3 : Hid (At w3 (w1.heap.size + 1) 22 #[.slice a n cap]) := Lib.hid (by
    have := At.new (w1.alloc (.cells #[.bool false] 4)) 22 #[.slice a n cap]
    rw [World.size_alloc] at this
    rw [hw3]; exact this)
  rw [← hw3]
  clear hw3 hgr HP1 HQ1 HB1 HG1
  refine wpIn_rfr (gf := 23) (lb := #[.pointer (some ⟨w1.heap.size + 1, 0, none⟩)]) rfl (enters_of Try.func23 (by kernel_rfl) rfl) ?_
  intro fn
  generalize hrc : rcd fn (Act.tmps _) _ _ _ _ = rc
  generalize hrr : rcr fn (Act.tmps _) _ _ _ _ = rr
  obtain ⟨D, hD⟩ : ∃ D, w3.heap.size = D := ⟨_, rfl⟩
  obtain ⟨lp, hlp⟩ : ∃ lp, w3.heap.size + 1 = lp := ⟨_, rfl⟩
  obtain ⟨r0, hr0⟩ : ∃ r, w.heap.size = r := ⟨_, rfl⟩
  obtain ⟨gn, hgn⟩ : ∃ r, w1.heap.size = r := ⟨_, rfl⟩
  have HNUM : Hid (D = gn + 2 ∧ lp = gn + 3 ∧ r0 + 2 < gn) := Lib.hid (by have := HS1.out; omega)
  have HGW : Hid (Grows w3 ((w3.alloc (.deferred (some []))).alloc (.loop (rc .ready)))) := Lib.hid (((Grows.refl _).alloc _).alloc _)
  have HL1 : Hid (((w3.alloc (.deferred (some []))).alloc (.loop (rc .ready))).heap[lp]? = some (.loop (rc .ready))) := Lib.hid (by
    have := World.alloc_heap_new (w3.alloc (.deferred (some []))) (.loop (rc .ready))
    rw [World.size_alloc, hlp] at this
    exact this)
  have HD1 : Hid (((w3.alloc (.deferred (some []))).alloc (.loop (rc .ready))).heap[D]? = some (.deferred (some []))) := Lib.hid (by
    rw [← hD]
    exact (RowKit.Below.heap_alloc _ _ _ (by simp)).trans (World.alloc_heap_new w3 _))
  rw [hlp, hD, hgn, hr0]
  rw [hr0] at HP3 HQ3 HB3
  rw [hgn] at HA3 HE3
  clear hs3 HS1
  generalize (w3.alloc (.deferred (some []))).alloc (.loop (rc .ready)) = W1 at *
  have HG1 := Lib.hid (HG3.out.trans HGW.out)
  refine (each1_any lp (gn + 1) 3 a cap L n HN.out W1 hL
    (fun k W => At W r0 31 #[.int .i64 p.s, .int .i64 p.i, .int .i64 p.t] ∧ At W (r0 + 1) 31 #[.int .i64 q.s, .int .i64 q.i, .int .i64 q.t] ∧ At W (r0 + 1 + 1) 4 #[.bool false] ∧ At W gn 4 #[.bool ((L.take k).any (stB 4 p))] ∧ Grows w W ∧ W.heap[D]? = some (.deferred (some [])) ∧ W.heap[lp]? = some (.loop (rc .ready)) ∧ ∀ (j : Nat) (z : Sn), j < k → L[j]? = some z → stB 0 q z = false)
    (fun W => At W (r0 + 1 + 1) 4 #[.bool (aheadL p q L)] ∧ Grows w W ∧ W.heap[D]? = some (.deferred (some [])) ∧ W.heap[lp]? = some (.loop (rr .done)))
    ((HE3.out.grows HGW.out).cell 0) ⟨HP3.out.grows HGW.out, HQ3.out.grows HGW.out, HB3.out.grows HGW.out, HA3.out.grows HGW.out, HG1.out, HD1.out, HL1.out, fun j z hj => by omega⟩ ?_ ?_ ?_).mono ?_
  · rintro k W W' ⟨h1, h2, h3, h4, h5, h6, h7, h8⟩ hg
    exact ⟨h1.grows hg, h2.grows hg, h3.grows hg, h4.grows hg, h5.trans hg, (hg.block _ (Array.getElem?_eq_some_iff.1 h6).1).trans h6, (hg.block _ (Array.getElem?_eq_some_iff.1 h7).1).trans h7, h8⟩
  · rintro k W ⟨_, _, _, _, h5, _⟩
    exact HR.out.grows h5
  · rintro k W' x hx ⟨hP, hQ, hB, hA, hG, hD', hl', hno⟩
    have hn9 := HNUM.out
    have hlW : lp < W'.heap.size := (Array.getElem?_eq_some_iff.1 hl').1
    obtain ⟨W5, hW5⟩ : ∃ W5, W5 = (W'.alloc (.cells x.cs.toArray 37)).putObj lp (.loop (rc .busy)) := ⟨_, rfl⟩
    have hTu5 : Turns (fun i => i = lp) W' W5 (fun _ => False) := by
      rw [hW5]
      exact ((((Turns.refl (fun i => i = lp) W').alloc _).put (.inl rfl) _).wide (fun _ h => h) (fun _ h => h.elim))
    have HG5 := Lib.hid (hTu5.low hG (fun i hi => by have := HG1.out.size; omega))
    have HP5 := Lib.hid (hTu5.at hP (by omega))
    have HQ5 := Lib.hid (hTu5.at hQ (by omega))
    have HB5 := Lib.hid (hTu5.at hB (by omega))
    have HA5 := Lib.hid (hTu5.at hA (by omega))
    have HD5 : Hid (W5.heap[D]? = some (.deferred (some []))) := Lib.hid ((hTu5.block D (Array.getElem?_eq_some_iff.1 hD').1 (by omega)).trans hD')
    have HL5 : Hid (W5.heap[lp]? = some (.loop (rc .busy))) := Lib.hid (by rw [hW5]; exact World.putObj_heap_same (by simp; omega))
    have HX5 : Hid (At W5 W'.heap.size 37 x.cs.toArray) := Lib.hid (by rw [hW5]; exact (At.new W' _ _).putObj (by omega) _)
    have hs5 : W5.heap.size = W'.heap.size + 1 := by rw [hW5, put_size, World.size_alloc]
    have HL' : Hid ((W'.alloc (.cells x.cs.toArray 37)).heap[lp]? = some (.loop (rc .ready))) := Lib.hid ((RowKit.Below.heap_alloc _ _ _ hlW).trans hl')
    refine yield_roundr hrc hrr hl' _ rfl _ ?_
    have htk1 : L.take (k + 1) = L.take k ++ [x] := by rw [List.take_add_one, hx]; rfl
    have hany : (L.take (k + 1)).any (stB 4 p) = ((L.take k).any (stB 4 p) || stB 4 p x) := by rw [htk1, List.any_append]; simp
    have HEND : Hid (∀ W6 v, At W6 r0 31 #[.int .i64 p.s, .int .i64 p.i, .int .i64 p.t] → At W6 (r0 + 1) 31 #[.int .i64 q.s, .int .i64 q.i, .int .i64 q.t] → At W6 (r0 + 1 + 1) 4 #[.bool false] → At W6 gn 4 #[.bool v] → v = ((L.take k).any (stB 4 p) || stB 4 p x) → stB 0 q x = false → W6.heap[lp]? = some (.loop (rc .busy)) → Grows w W6 → W6.heap[D]? = some (.deferred (some [])) →
        (W6.heap[lp]? = some (.loop (rc .busy)) ∧ (At (W6.putObj lp (.loop (rc .ready))) r0 31 #[.int .i64 p.s, .int .i64 p.i, .int .i64 p.t] ∧ At (W6.putObj lp (.loop (rc .ready))) (r0 + 1) 31 #[.int .i64 q.s, .int .i64 q.i, .int .i64 q.t] ∧ At (W6.putObj lp (.loop (rc .ready))) (r0 + 1 + 1) 4 #[.bool false] ∧ At (W6.putObj lp (.loop (rc .ready))) gn 4 #[.bool ((L.take (k + 1)).any (stB 4 p))] ∧ Grows w (W6.putObj lp (.loop (rc .ready))) ∧ (W6.putObj lp (.loop (rc .ready))).heap[D]? = some (.deferred (some [])) ∧ (W6.putObj lp (.loop (rc .ready))).heap[lp]? = some (.loop (rc .ready)) ∧ ∀ (j : Nat) (z : Sn), j < k + 1 → L[j]? = some z → stB 0 q z = false))) := Lib.hid (fun W6 v g1 g2 g3 g4 g5 g6 g7 g8 g9 => by
      have hn := HNUM.out
      have hw := HG1.out.size
      have hr := hr0
      refine ⟨g7, g1.putObj (by omega) _, g2.putObj (by omega) _, g3.putObj (by omega) _, ?_, ?_, ?_, World.putObj_heap_same (Array.getElem?_eq_some_iff.1 g7).1, ?_⟩
      · rw [hany, ← g5]; exact g4.putObj (by omega) _
      · exact (((Turns.refl (fun i => i = lp) W6).put (.inl rfl) _)).low g8 (fun i hi => by omega)
      · exact (World.putObj_heap_other (by omega)).trans g9
      · intro j z hj hz
        rcases Nat.lt_or_ge j k with h | h
        · exact hno j z h hz
        · obtain rfl : j = k := by omega
          rw [hx] at hz
          injection hz with hz
          rw [← hz]
          exact g6)
    have HAH : Hid (stB 0 q x = true → aheadL p q L = (L.take k).any (stB 4 p)) := Lib.hid (fun h => ahead_some hx h hno)
    clear hrc hrr hTu5 hP hQ hB hA hG hD' hl' hno htk1 hany hx
    generalize (L.take k).any (stB 4 p) = ans at *
    have hlt5 : W'.heap.size < W5.heap.size := by omega
    have hrP := HP5.out.lt
    have hrQ := HQ5.out.lt
    have hrB := HB5.out.lt
    have hrA := HA5.out.lt
    clear hn9 hs5 hlW hD hlp
    unfold Sn.cs at HL' hW5 ⊢
    gi_wp2
    refine ⟨HL'.out, ?_⟩
    rw [← hW5]
    clear hW5
    have cP := HP5.out.cell
    have cQ := HQ5.out.cell
    have cA := HA5.out.cell
    have fA := HA5.out.frozen 0
    have cB := HB5.out.cell
    have fB := HB5.out.frozen 0
    have cX := HX5.out.cell
    unfold Sn.cs at cX
    have he := eqn_any
    by_cases h4 : x.k = 4
    · have b4 : (x.k == (4 : Int)) = true := by simp [h4]
      have b0 : (x.k == (0 : Int)) = false := by simp [h4]
      have HS0 : Hid (stB 0 q x = false) := Lib.hid (by unfold stB; rw [b0]; rfl)
      clear h4
      by_cases hxp : x.n = p
      · have hd : decide (x.n = p) = true := by simp [hxp]
        have HS4 : Hid (stB 4 p x = true) := Lib.hid (by unfold stB; rw [b4, hd]; rfl)
        clear hxp
        gi_wp2
        have hn := HNUM.out
        exact HEND.out _ true (HP5.out.far (show r0 ≠ gn by omega) _) (HQ5.out.far (show r0 + 1 ≠ gn by omega) _) (HB5.out.far (show r0 + 1 + 1 ≠ gn by omega) _) (HA5.out.set 0 _) (by rw [HS4.out, Bool.or_true]) HS0.out ((RowKit.Below.heap_setCell _ _ _ _ (show lp ≠ gn by omega)).trans HL5.out) (HG5.out.setCell (show w.heap.size ≤ gn by omega) _) ((RowKit.Below.heap_setCell _ _ _ _ (show D ≠ gn by omega)).trans HD5.out)
      · have hd : decide (x.n = p) = false := by simp [hxp]
        have HS4 : Hid (stB 4 p x = false) := Lib.hid (by unfold stB; rw [hd, Bool.and_false])
        clear hxp
        gi_wp2
        exact HEND.out _ ans HP5.out HQ5.out HB5.out HA5.out (by rw [HS4.out, Bool.or_false]) HS0.out HL5.out HG5.out HD5.out
    · have b4 : (x.k == (4 : Int)) = false := by simp [h4]
      have HS4 : Hid (stB 4 p x = false) := Lib.hid (by unfold stB; rw [b4]; rfl)
      clear h4
      by_cases h0 : x.k = 0
      · have b0 : (x.k == (0 : Int)) = true := by simp [h0]
        clear h0
        by_cases hxq : x.n = q
        · have hd : decide (x.n = q) = true := by simp [hxq]
          have HS0 : Hid (stB 0 q x = true) := Lib.hid (by unfold stB; rw [b0, hd]; rfl)
          have HAQ := Lib.hid (HAH.out HS0.out)
          have HRET : Hid ((W5.setCell ⟨r0 + 1 + 1, 0, none⟩ (.bool ans)).heap[lp]? = some (.loop (rc .busy)) ∧ (At ((W5.setCell ⟨r0 + 1 + 1, 0, none⟩ (.bool ans)).putObj lp (.loop (rr .done))) (r0 + 1 + 1) 4 #[.bool (aheadL p q L)] ∧ Grows w ((W5.setCell ⟨r0 + 1 + 1, 0, none⟩ (.bool ans)).putObj lp (.loop (rr .done))) ∧ ((W5.setCell ⟨r0 + 1 + 1, 0, none⟩ (.bool ans)).putObj lp (.loop (rr .done))).heap[D]? = some (.deferred (some [])) ∧ ((W5.setCell ⟨r0 + 1 + 1, 0, none⟩ (.bool ans)).putObj lp (.loop (rr .done))).heap[lp]? = some (.loop (rr .done)))) := Lib.hid (by
            have hn := HNUM.out
            have e1 : (W5.setCell ⟨r0 + 1 + 1, 0, none⟩ (.bool ans)).heap[lp]? = some (.loop (rc .busy)) := (RowKit.Below.heap_setCell _ _ _ _ (show lp ≠ r0 + 1 + 1 by omega)).trans HL5.out
            refine ⟨e1, ?_, ?_, ?_, World.putObj_heap_same (Array.getElem?_eq_some_iff.1 e1).1⟩
            · rw [HAQ.out]; exact (HB5.out.set 0 _).putObj (by omega) _
            · exact (((Turns.refl (fun i => i = lp) _).put (.inl rfl) _)).low (HG5.out.setCell (show w.heap.size ≤ r0 + 1 + 1 by omega) _) (fun i hi => by omega)
            · exact (World.putObj_heap_other (by omega)).trans ((RowKit.Below.heap_setCell _ _ _ _ (show D ≠ r0 + 1 + 1 by omega)).trans HD5.out))
          clear hxq
          gi_wp2
          exact HRET.out
        · have hd : decide (x.n = q) = false := by simp [hxq]
          have HS0 : Hid (stB 0 q x = false) := Lib.hid (by unfold stB; rw [hd, Bool.and_false])
          clear hxq
          gi_wp2
          exact HEND.out _ ans HP5.out HQ5.out HB5.out HA5.out (by rw [HS4.out, Bool.or_false]) HS0.out HL5.out HG5.out HD5.out
      · have b0 : (x.k == (0 : Int)) = false := by simp [h0]
        have HS0 : Hid (stB 0 q x = false) := Lib.hid (by unfold stB; rw [b0]; rfl)
        clear h0
        gi_wp2
        exact HEND.out _ ans HP5.out HQ5.out HB5.out HA5.out (by rw [HS4.out, Bool.or_false]) HS0.out HL5.out HG5.out HD5.out
  · rintro e W ⟨⟨v, rfl⟩, ⟨h1, h2, h3, h4, h5, h6, h7, h8⟩ | ⟨h1, h2, h3, h4⟩⟩
    · refine ⟨⟨_, rfl⟩, .inl ⟨h7, ?_⟩⟩
      have hn9 := HNUM.out
      have HAF : Hid (aheadL p q L = false) := Lib.hid (ahead_none fun j z hz => h8 j z (by have := (List.getElem?_eq_some_iff.1 hz).1; have := HN.out; omega) hz)
      obtain ⟨W7, hW7⟩ : ∃ W7, W7 = W.putObj lp (.loop (rc .exhausted)) := ⟨_, rfl⟩
      have k3 : At W7 (r0 + 1 + 1) 4 #[.bool false] := by rw [hW7]; exact h3.putObj (by omega) _
      have k6 : W7.heap[D]? = some (.deferred (some [])) := by rw [hW7]; exact (World.putObj_heap_other (by omega)).trans h6
      have hg7 : Grows w W7 := by rw [hW7]; exact ((Turns.refl (fun i => i = lp) W).put (.inl rfl) _).low h5 (fun i hi => by omega)
      have c3 : W7.cell? ⟨r0 + 1 + 1, 0, none⟩ = some (.bool false) := k3.cell 0
      have f3 := k3.frozen 0
      have HD9 : Hid ((W7.setCell ⟨r0 + 1 + 1, 0, none⟩ (.bool false)).heap[D]? = some (.deferred (some []))) := Lib.hid ((RowKit.Below.heap_setCell _ _ _ _ (by simp; omega)).trans k6)
      have HB9 : Hid (At ((W7.setCell ⟨r0 + 1 + 1, 0, none⟩ (.bool false)).putObj D (.deferred none)) (r0 + 1 + 1) 4 #[.bool false]) := Lib.hid (At.putObj (k3.set 0 _) (by omega) _)
      have HFIN : Hid (Grows w ((W7.setCell ⟨r0 + 1 + 1, 0, none⟩ (.bool false)).putObj D (.deferred none))) := Lib.hid (((Turns.refl (fun i => i = D) _).put (.inl rfl) _).low (hg7.setCell (show w.heap.size ≤ r0 + 1 + 1 by omega) _) (fun i hi => by omega))
      rw [← hW7]
      clear hW7 k3 k6 h1 h2 h3 h4 h5 h6 h7 h8 hg7 hn9 hrc hrr
      gi_wp2
      refine ⟨by simp, .inl ⟨_, _, rfl, run_takeDeferred HD9.out, ?_⟩⟩
      exact ⟨_, results_cell1 rfl _ _ (r0 + 1 + 1) _ (by simp) (ld_bool HB9.out), by rw [HAF.out], HFIN.out⟩
    · refine ⟨⟨_, rfl⟩, .inr ⟨h4, ?_⟩⟩
      have hn9 := HNUM.out
      have hTu : Turns (fun i => i = lp ∨ i = D) W ((W.putObj lp (.loop (rr .exhausted))).putObj D (.deferred none)) (fun _ => False) :=
        (((Turns.refl _ W).put (.inl (.inl rfl)) _).put (.inl (.inr rfl)) _).wide (fun _ h => h) (fun _ h => h.elim)
      have q1 := hTu.low h2 (fun i hi => by omega)
      have k6 : (W.putObj lp (.loop (rr .exhausted))).heap[D]? = some (.deferred (some [])) := (World.putObj_heap_other (by omega)).trans h3
      have q3 : At ((W.putObj lp (.loop (rr .exhausted))).putObj D (.deferred none)) (r0 + 1 + 1) 4 #[.bool (aheadL p q L)] := (h1.putObj (by omega) _).putObj (by omega) _
      clear hrc hrr
      gi_wp2
      refine ⟨by simp, .inl ⟨_, _, rfl, run_takeDeferred k6, ?_⟩⟩
      exact ⟨_, results_cell1 rfl _ _ (r0 + 1 + 1) _ (by simp) (ld_bool q3), rfl, q1⟩
end Go.Proofs.Ytcailhkaeledbaa
