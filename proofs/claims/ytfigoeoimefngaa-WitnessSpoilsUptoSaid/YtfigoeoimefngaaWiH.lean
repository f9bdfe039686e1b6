/-
  witness.view.reads: the iterator.
-/
import Derived.Test.YtfigoeoimefngaaWiG
import Derived.Test.YtfigoeoimefngaaWiR
import Derived.Test.YtfigoeoimefngaaWiS
namespace Go.Proofs.Ytfigoeoimefngaa
open Go.RowKit Go.Maps Go.Shelf
attribute [local go_sem] Oper.semAt_some

theorem z46 (W : World) : (zeroValue 46).run Try.prog W = .ok (.agg (ivs zer256).toArray) W := by kernel_rfl
theorem z77 (W : World) : (zeroValue 77).run Try.prog W = .ok (.agg (rowsOf Nm.cs zer32).toArray) W := by kernel_rfl
/-- The places of the first i names. -/
def evs (L : List Sn) (i : Nat) : List Nat := ((decL L).take i).flatMap (pls (ev L))
/-- The reads' state: which faults were handed out, what lies in the two arrays; own: the iterator's own blocks. -/
def RdS (J : Nat → (Nat → Prop) → World → Prop) (L : List Sn) (gB : Nat) (own : List Nat) (E : List Nat) (Wk : World) : Prop :=
  ∃ O, J (rdF L E (zer256, zer32)).length O Wk ∧ (∀ i ∈ own, ¬ O i ∧ i < Wk.heap.size ∧ gB ≤ i) ∧ (∀ i, O i → i < Wk.heap.size) ∧ At Wk gB 46 (ivs (stF L E (zer256, zer32)).1).toArray ∧ At Wk (gB + 1) 77 (rowsOf Nm.cs (stF L E (zer256, zer32)).2).toArray
theorem rows_set : ∀ (l : List Nm) (q : Nat), q < l.length → ∀ x : Nm, spl (rowsOf Nm.cs l) (q * 3) x.cs = rowsOf Nm.cs (l.set q x)
  | [], _, h, _ => by simp at h
  | y :: l, 0, _, x => by rw [List.set_cons_zero, rows_cons, rows_cons]; rfl
  | y :: l, q + 1, h, x => by
    have ih := rows_set l q (by simpa using h) x
    rw [List.set_cons_succ, rows_cons, rows_cons, ← ih]
    unfold spl
    rw [show (q + 1) * 3 = q * 3 + 3 by omega, show q * 3 + 3 + x.cs.length = (q * 3 + x.cs.length) + 3 by omega]
    rfl
theorem rdF_write {L : List Sn} (E : List Nat) (z : List Int × List Nm) {p : Nat} {y : Sn} (hy : L[p]? = some y) (hk : y.k = 2) : rdF L (E ++ [p]) z = rdF L E z := by
  rw [rdF_append, rdF, hy]
  simp only []
  rw [if_pos hk]
  simp [rdF]
theorem stF_write {L : List Sn} (E : List Nat) (z : List Int × List Nm) {p q : Nat} {y : Sn} {x : Nm} (hy : L[p]? = some y) (hk : y.k = 2) (hq : y.b = (q : Int)) (hx : y.n = x) : stF L (E ++ [p]) z = (spl (stF L E z).1 (q * 8) y.val, (stF L E z).2.set q x) := by
  rw [stF_append, stF, hy]
  simp only [stF]
  unfold wstep
  rw [if_pos hk]
  unfold wrt
  rw [if_pos hk, hq, Int.toNat_natCast, hx]
theorem RdS_write {J : Nat → (Nat → Prop) → World → Prop} {L : List Sn} {b1 : Nat} {own E : List Nat} {wz : World} {O : Nat → Prop} (hJ : ∀ k O W' W'', J k O W' → Kp b1 O W' W'' → J k O W'') (hsz : SzF (stF L E (zer256, zer32)))
    (k1 : J (rdF L E (zer256, zer32)).length O wz) (k2 : ∀ i ∈ own, ¬ O i ∧ i < wz.heap.size ∧ b1 ≤ i) (k3 : ∀ i, O i → i < wz.heap.size) (k4 : At wz b1 46 (ivs (stF L E (zer256, zer32)).1).toArray) (k5 : At wz (b1 + 1) 77 (rowsOf Nm.cs (stF L E (zer256, zer32)).2).toArray)
    (hb : b1 ∈ own) (hb' : b1 + 1 ∈ own) {p q : Nat} {y : Sn} {x : Nm} (hy : L[p]? = some y) (hk : y.k = 2) (hq : y.b = (q : Int)) (h32 : q < 32) (hx : y.n = x) :
    RdS J L b1 own (E ++ [p]) ((wz.setCells b1 (q * 8) (ivs y.val)).setCells (b1 + 1) (q * 3) x.cs) := by
  have e1 := rdF_write E (zer256, zer32) hy hk
  have e2 := stF_write E (zer256, zer32) hy hk hq hx
  have hsize : wz.heap.size ≤ ((wz.setCells b1 (q * 8) (ivs y.val)).setCells (b1 + 1) (q * 3) x.cs).heap.size := by rw [size_setCells, size_setCells]; omega
  have q1 := At.setCells (ivs y.val) (q * 8) k4 (by rw [ivs_len, ivs_len, hsz.bl, y.val_len]; omega)
  have q2 := At.setCells_far q1 (b := b1 + 1) (by omega) x.cs (q * 3) q1
  have q3 := At.setCells_far k5 (b := b1) (by omega) (ivs y.val) (q * 8) k5
  have q4 := At.setCells x.cs (q * 3) q3 (by rw [rows_length Nm.cs_len, hsz.wh, Nm.cs_len]; omega)
  refine ⟨O, ?_, fun i hi => ?_, fun i hi => ?_, ?_, ?_⟩
  · rw [e1]
    exact hJ _ _ _ _ k1 ((Kp.sets (fun h => by rcases h with h | h; omega; exact (k2 b1 hb).1 h) _ _).trans (Kp.sets (fun h => by rcases h with h | h; omega; exact (k2 (b1 + 1) hb').1 h) _ _))
  · exact ⟨(k2 i hi).1, Nat.lt_of_lt_of_le (k2 i hi).2.1 hsize, (k2 i hi).2.2⟩
  · exact Nat.lt_of_lt_of_le (k3 i hi) hsize
  · rw [e2, ivs_spl]
    exact q2
  · rw [e2, ← rows_set _ _ (by rw [hsz.wh]; omega)]
    exact q4
theorem blk_cell {W : World} {g : Nat} {t : TypeId} {l : List Int} (h : At W g t (ivs l).toArray) {q : Nat} {v : List Int} (hv : blk l q = v) (k : Nat) {o : Int} (hk : v[k]? = some o) : W.cell? ⟨g, q * 8 + k, none⟩ = some (.int .u8 o) := by
  rw [h.cell, ← hv] at *
  unfold blk at hk
  rw [List.getElem?_take] at hk
  split at hk
  · rw [List.getElem?_drop] at hk
    simp [ivs, hk]
  · cases hk
theorem nm_cell {W : World} {g : Nat} {t : TypeId} {l : List Nm} (h : At W g t (rowsOf Nm.cs l).toArray) {q : Nat} {z : Nm} (hz : l[q]? = some z) (k : Nat) {v : Value} (hk : z.cs[k]? = some v) : W.cell? ⟨g, q * 3 + k, none⟩ = some v := by
  have hr : Rd W (some ⟨g, 0, none⟩) (rowsOf Nm.cs l) := .inr ⟨g, 0, rfl, h.lt, fun i v hv => by rw [h.cell]; simpa using hv⟩
  have := (rows_cell_at Nm.cs_len (by omega) hr hz).2 k v hk
  simpa using this
theorem evs_next {L : List Sn} {i : Nat} (hi : i < (decL L).length) : evs L (i + 1) = evs L i ++ pls (ev L) (decL L)[i] := by
  unfold evs
  rw [List.take_add_one, List.getElem?_eq_getElem hi, List.flatMap_append]
  simp
theorem at_some {W : World} {g : Nat} {t : TypeId} {l : List Value} (h : At W g t l.toArray) {i : Nat} (hi : i < l.length) : ∃ v, W.cell? ⟨g, i, none⟩ = some v := ⟨l[i], by rw [h.cell]; simp [hi]⟩
theorem evs_all (L : List Sn) : evs L (decL L).length = plsD L := by unfold evs plsD; rw [List.take_length]
theorem evs_split {L : List Sn} {i : Nat} (_hi : i ≤ (decL L).length) : ∃ R, plsD L = evs L i ++ R := by
  refine ⟨((decL L).drop i).flatMap (pls (ev L)), ?_⟩
  unfold plsD evs
  rw [← List.flatMap_append, List.take_append_drop]
theorem rdF_read {L : List Sn} (E : List Nat) (z : List Int × List Nm) {p : Nat} {y : Sn} (hy : L[p]? = some y) (hk : y.k ≠ 2) : rdF L (E ++ [p]) z = rdF L E z ++ [mkF L p y (stF L E z)] := by
  rw [rdF_append, rdF, hy]
  simp only []
  rw [if_neg hk]
  simp [rdF]
theorem stF_read {L : List Sn} (E : List Nat) (z : List Int × List Nm) {p : Nat} {y : Sn} (hy : L[p]? = some y) (hk : y.k ≠ 2) : stF L (E ++ [p]) z = stF L E z := by
  rw [stF_append, stF, hy]
  simp only [stF]
  unfold wstep
  rw [if_neg hk]
theorem readsF_at {L : List Sn} {E R : List Nat} {p : Nat} {y : Sn} (hs : plsD L = E ++ p :: R) (hy : L[p]? = some y) (hk : y.k ≠ 2) : (readsF L)[(rdF L E (zer256, zer32)).length]? = some (mkF L p y (stF L E (zer256, zer32))) := by
  unfold readsF
  rw [hs, rdF_append, List.getElem?_append_right (Nat.le_refl _), Nat.sub_self, rdF, hy]
  simp only []
  rw [if_neg hk]
  rfl
theorem RdS_read {J : Nat → (Nat → Prop) → World → Prop} {L : List Sn} {b0 b1 : Nat} {own E : List Nat} {wz W3 W2 : World} {O O' : Nat → Prop} (hJO : ∀ k O W', J k O W' → b0 ≤ W'.heap.size ∧ ∀ i, O i → i < W'.heap.size)
    (k2 : ∀ i ∈ own, ¬ O i ∧ i < wz.heap.size ∧ b1 ≤ i) (k4 : At wz b1 46 (ivs (stF L E (zer256, zer32)).1).toArray) (k5 : At wz (b1 + 1) 77 (rowsOf Nm.cs (stF L E (zer256, zer32)).2).toArray) (hg : Grows wz W3)
    (hb : b1 ∈ own) (hb' : b1 + 1 ∈ own) {p : Nat} {y : Sn} (hy : L[p]? = some y) (hk : y.k ≠ 2) (hj : J ((rdF L E (zer256, zer32)).length + 1) O' W2) (ht : Turns O W3 W2 O') : RdS J L b1 own (E ++ [p]) W2 := by
  refine ⟨O', ?_, fun i hi => ⟨fun h => ?_, ?_, (k2 i hi).2.2⟩, (hJO _ _ _ hj).2, ?_, ?_⟩
  · rw [rdF_read E _ hy hk, List.length_append]
    exact hj
  · rcases ht.own i h with h1 | h1
    · exact (k2 i hi).1 h1
    · exact absurd h1 (Nat.not_le.2 (Nat.lt_of_lt_of_le (k2 i hi).2.1 hg.size))
  · exact Nat.lt_of_lt_of_le (k2 i hi).2.1 (Nat.le_trans hg.size ht.size)
  · rw [stF_read E _ hy hk]
    exact ht.at (k4.grows hg) (k2 _ hb).1
  · rw [stF_read E _ hy hk]
    exact ht.at (k5.grows hg) (k2 _ hb').1
set_option maxRecDepth 100000 in
set_option maxHeartbeats 8000000 in
theorem reads1_any (lp bl n0 : Nat) (a : Option Addr) (cap : Nat) (L : List Sn) (n : Nat) (hn : L.length = n) (hL : n ≤ 1000) (hm : mayB L = true) (hok : ∀ x ∈ L, x.n.ok ∧ x.wk.ok) (a' : Option Addr) (c' r : Nat) (V : Nm → Value) (W : World) (J : Nat → (Nat → Prop) → World → Prop) (S : World → Prop) (O0 : Nat → Prop)
    (h0 : J 0 O0 W) (hO : ∀ k O W', J k O W' → W.heap.size ≤ W'.heap.size ∧ ∀ i, O i → i < W'.heap.size) (hJ : ∀ k O W' W'', J k O W' → Kp W.heap.size O W' W'' → J k O W'') (hV : ∀ k O W', J k O W' → VwB W' bl L a n cap a' c' r V) (hb : bl < W.heap.size)
    (hY : ∀ k O W' f, (readsF L)[k]? = some f → J k O W' → YieldAt Fence.wide n0 Try.prog lp #[.agg f.cs.toArray] W' fun e W2 => (e = .returned (.bool true) ∧ ∃ O', J (k + 1) O' W2 ∧ Turns O W' W2 O') ∨ (e = .returned (.bool false) ∧ S W2)) :
    CallsIn Fence.wide (n0 + 1) Try.prog 38 #[.func (.yield lp) #[] #[], .pointer (some ⟨bl, 0, none⟩)] W fun e W' => (∃ v, e = .returned v) ∧ ((∃ O, J (readsF L).length O W') ∨ S W') := by
  have hz1 := z46
  have hz2 := z77
  have HN := Lib.hid hn
  have HM := Lib.hid hm
  have HOK := Lib.hid hok
  have H0 := Lib.hid h0
  have HO := Lib.hid hO
  have HJ0 : Hid (∀ k O W', J k O W' → W.heap.size ≤ W'.heap.size ∧ ∀ i, O i → i < W'.heap.size) := HO
  have HJ := Lib.hid hJ
  have HV := Lib.hid hV
  have HY := Lib.hid hY
  have HB := Lib.hid hb
  have HNL := Lib.hid hL
  clear hn hm hok h0 hO hJ hV hY hb
  refine callsIn_of_wp Try.func38 rfl trivial ?_ rfl
  simp only [Try.ntmps38, List.size_toArray, List.length_cons, List.length_nil, Nat.reduceAdd, Nat.reduceSub, Array.replicate_succ, Array.replicate_zero, List.push_toArray, List.append_toArray, List.nil_append, List.cons_append]
  have HVB := Lib.hid (HV.out _ _ _ H0.out)
  obtain ⟨W1, hW1⟩ : ∃ W1, (W.alloc (.cells (ivs zer256).toArray 46)).alloc (.cells (rowsOf Nm.cs zer32).toArray 77) = W1 := ⟨_, rfl⟩
  have hg1 : Grows W W1 := by rw [← hW1]; exact ((Grows.refl _).alloc _).alloc _
  have hc1 : W1.cell? ⟨bl, 1, none⟩ = some (.slice a' (decL L).length c') := (HVB.out.box.grows hg1).cell 1
  have HG1 := Lib.hid hg1
  have HGR : Hid (∀ own E W' W'', RdS J L W.heap.size own E W' → Grows W' W'' → RdS J L W.heap.size own E W'') := Lib.hid (by
    rintro own E W' W'' ⟨O, h1, h2, h3, h4, h5⟩ hg
    exact ⟨O, HJ.out _ _ _ _ h1 (Kp.grows hg), fun i hi => ⟨(h2 i hi).1, Nat.lt_of_lt_of_le (h2 i hi).2.1 hg.size, (h2 i hi).2.2⟩, fun i hi => Nat.lt_of_lt_of_le (h3 i hi) hg.size, h4.grows hg, h5.grows hg⟩)
  have HR0 : Hid (RdS J L W.heap.size [W.heap.size, W.heap.size + 1] [] W1) := Lib.hid (by
    have hA : At W1 W.heap.size 46 (ivs zer256).toArray := by rw [← hW1]; exact (At.new W _ _).alloc _
    have hB : At W1 (W.heap.size + 1) 77 (rowsOf Nm.cs zer32).toArray := by
      have := At.new (W.alloc (.cells (ivs zer256).toArray 46)) 77 (rowsOf Nm.cs zer32).toArray
      rw [World.size_alloc] at this
      rw [← hW1]; exact this
    have hlt := (HO.out _ _ _ H0.out).2
    refine ⟨O0, HJ.out _ _ _ _ H0.out (Kp.grows HG1.out), fun i hi => ?_, fun i hi => Nat.lt_of_lt_of_le (hlt i hi) HG1.out.size, hA, hB⟩
    simp only [List.mem_cons, List.not_mem_nil, or_false] at hi
    rcases hi with rfl | rfl
    · exact ⟨fun h => by have := hlt _ h; omega, hA.lt, Nat.le_refl _⟩
    · exact ⟨fun h => by have := hlt _ h; omega, hB.lt, by omega⟩)
  obtain ⟨d, hd⟩ : ∃ d, (decL L).length = d := ⟨_, rfl⟩
  have HDN : Hid (d ≤ n) := Lib.hid (by rw [← hd, ← HN.out]; exact decL_len L)
  have HD := Lib.hid hd
  rw [hd] at hc1
  clear hg1 H0 hd
  gi_wp2
  clear hz1 hz2 hc1 hW1
  gi_loopw [14] (fun v14 wr => ∃ i : Nat, v14 = .int .i64 (i : Int) ∧ i ≤ d ∧ RdS J L W.heap.size [W.heap.size, W.heap.size + 1] (evs L i) wr) (fun v14 _ => d - (numOf v14).toNat)
  case atStart => exact ⟨0, rfl, Nat.zero_le _, HR0.out⟩
  case round =>
    obtain ⟨i, rfl, hi, hR⟩ := hrel
    have HRW := Lib.hid hR
    clear hR
    by_cases hlt : i < d
    · have hil : i < (decL L).length := by rw [HD.out]; exact hlt
      have HNX := Lib.hid (evs_next hil)
      have hvb : VwB wr bl L a n cap a' c' r V := by
        obtain ⟨O, h1, _⟩ := HRW.out
        exact HV.out _ _ _ h1
      obtain ⟨g, off, rfl, hgw, c0, c1, c2⟩ := name_cell hvb.names hil
      have HXO := Lib.hid (decL_ok (fun x hx => (HOK.out x hx).1) _ (List.getElem_mem hil))
      generalize (decL L)[i] = x at *
      obtain ⟨wx, hwx⟩ : ∃ wx, wr.alloc (.cells #[.int .i64 x.s, .int .i64 x.i, .int .i64 x.t] 29) = wx := ⟨_, rfl⟩
      have hgx : Grows wr wx := by rw [← hwx]; exact (Grows.refl _).alloc _
      have hlk := (hvb.vw.steps.grows hgx).look HXO.out
      obtain ⟨av, cv, hv, _⟩ := own_slice (hvb.vw.steps.row x)
      rw [hv] at hlk
      have hcb : wx.cell? ⟨bl, 3, none⟩ = some (.map (some (r + 1))) := (hvb.box.grows hgx).cell 3
      have hcx : ∀ o, wx.cell? ⟨wr.heap.size, o, none⟩ = #[.int .i64 x.s, .int .i64 x.i, .int .i64 x.t][o]? := by rw [← hwx]; exact (At.new wr _ _).cell
      have hi1 : (i : Int) < (d : Int) := by omega
      have HVX := Lib.hid hv
      have HGX := Lib.hid hgx
      have HXB : Hid (At wx wr.heap.size 29 #[.int .i64 x.s, .int .i64 x.i, .int .i64 x.t]) := Lib.hid (by rw [← hwx]; exact At.new wr _ _)
      unfold Nm.v at hlk
      have HPM : Hid (∀ p ∈ pls (ev L) x, ∃ y, L[p]? = some y ∧ y.n = x ∧ rwB y = true) := Lib.hid (fun p hp => pls_mem hp)
      have HPL : Hid ((pls (ev L) x).length ≤ 1000) := Lib.hid (Nat.le_trans (pls_len _ _) (Nat.le_trans (ev_len L) (by rw [HN.out]; exact hL)))
      have HRX : Hid (RdS J L W.heap.size [W.heap.size, W.heap.size + 1, wr.heap.size] (evs L i ++ (pls (ev L) x).take 0) wx) := Lib.hid (by
        obtain ⟨O, h1, h2, h3, h4⟩ := HRW.out
        have hbs := (HJ0.out _ _ _ h1).1
        have h5 : RdS J L W.heap.size [W.heap.size, W.heap.size + 1, wr.heap.size] (evs L i) wx := by
          refine ⟨O, HJ.out _ _ _ _ h1 (Kp.grows HGX.out), fun b hb => ?_, fun b hb => Nat.lt_of_lt_of_le (h3 b hb) HGX.out.size, h4.1.grows HGX.out, h4.2.grows HGX.out⟩
          simp only [List.mem_cons, List.not_mem_nil, or_false] at hb
          rcases hb with rfl | rfl | rfl
          · obtain ⟨q1, q2, q3⟩ := h2 W.heap.size (by simp); exact ⟨q1, Nat.lt_of_lt_of_le q2 HGX.out.size, q3⟩
          · obtain ⟨q1, q2, q3⟩ := h2 (W.heap.size + 1) (by simp); exact ⟨q1, Nat.lt_of_lt_of_le q2 HGX.out.size, q3⟩
          · exact ⟨fun h => by have := h3 _ h; omega, HXB.out.lt, hbs⟩
        simpa using h5)
      obtain ⟨gN, hgN⟩ : ∃ gN, wr.heap.size = gN := ⟨_, rfl⟩
      have HGNE : Hid (W.heap.size + 1 < gN) := Lib.hid (by
        obtain ⟨_, _, q2, _, _, _⟩ := HRW.out
        have := q2 (W.heap.size + 1) (by simp)
        omega)
      clear hvb hv hgx HRW
      rw [hgN] at HRX HXB hcx
      gi_wp2
      clear hcb hcx hlk hwx hgN
      generalize hps : pls (ev L) x = ps at *
      have HPS := Lib.hid hps
      clear hps
      gi_loopw [23] (fun v23 wi => ∃ j : Nat, v23 = .int .i64 (j : Int) ∧ j ≤ ps.length ∧ RdS J L W.heap.size [W.heap.size, W.heap.size + 1, gN] (evs L i ++ ps.take j) wi ∧ At wi gN 29 #[.int .i64 x.s, .int .i64 x.i, .int .i64 x.t]) (fun v23 _ => ps.length - (numOf v23).toNat)
      case atStart => exact ⟨0, rfl, Nat.zero_le _, HRX.out, HXB.out⟩
      case round =>
        obtain ⟨j, rfl, hj, hR, hX⟩ := hrel
        have HRI := Lib.hid hR
        have HXI := Lib.hid hX
        clear hR hX HRX HXB
        generalize wr = wi at *
        by_cases hlj : j < ps.length
        · obtain ⟨y, hy, hyn, hyr⟩ := HPM.out _ (List.getElem_mem hlj)
          have hvb : VwB wi bl L a n cap (some ⟨g, off, none⟩) c' r V := by
            obtain ⟨O, h1, _⟩ := HRI.out
            exact HV.out _ _ _ h1
          have rdp := Rd.own (by have := hvb.vw.steps.row x; rwa [HVX.out, HPS.out] at this)
          obtain ⟨gP, oP, rfl, hgP, hcP⟩ := rdp.at (by rw [nts_len]; omega)
          have hp := hcP j (by rw [nts_len]; exact hlj)
          rw [show (nts ps)[j]'(by rw [nts_len]; exact hlj) = .int .i64 ((ps[j] : Nat) : Int) by simp [nts]] at hp
          have HTK : Hid (evs L i ++ ps.take (j + 1) = (evs L i ++ ps.take j) ++ [ps[j]]) := Lib.hid (by rw [List.take_add_one, List.getElem?_eq_getElem hlj]; simp)
          have hkl := (List.getElem?_eq_some_iff.1 hy).1
          generalize ps[j] = p at *
          have e9 : L[p] = y := by rw [List.getElem?_eq_getElem hkl] at hy; injection hy
          obtain ⟨gL, oL, rfl, hgL, hcL⟩ := cells14 hvb.rd hkl
          rw [e9] at hcL
          obtain ⟨c0, c1, c2, c3, c4, c5, c6, c7, c8, c9, c10, c11, c12, c13⟩ := cells14_at hcL
          have hb0 : wi.cell? ⟨bl, 0, none⟩ = some (.slice (some ⟨gL, oL, none⟩) n cap) := hvb.box.cell 0
          obtain ⟨wz, hwz⟩ : ∃ wz, wi.alloc (.cells y.cs.toArray 36) = wz := ⟨_, rfl⟩
          have hgz : Grows wi wz := by rw [← hwz]; exact (Grows.refl _).alloc _
          have HRZ := Lib.hid (HGR.out _ _ _ _ HRI.out hgz)
          have HNE : Hid (gN ≠ W.heap.size ∧ wi.heap.size ≠ W.heap.size) := Lib.hid (by
            obtain ⟨_, _, q2, _, _, _⟩ := HRI.out
            have := q2 W.heap.size (by simp)
            exact ⟨by have := HGNE.out; omega, by omega⟩)
          have HXZ := Lib.hid (HXI.out.grows hgz)
          have HYZ : Hid (At wz wi.heap.size 36 y.cs.toArray) := Lib.hid (by rw [← hwz]; exact At.new wi _ _)
          have hyb := rw_block HM.out hy hyr
          obtain ⟨q, hq⟩ : ∃ q : Nat, y.b = (q : Int) := ⟨y.b.toNat, by omega⟩
          have hq32 : q < 32 := by omega
          have hj1 : (j : Int) < (ps.length : Int) := by omega
          have hp0 : (0 : Int) ≤ (p : Int) := by omega
          have hpn : (p : Int) < (n : Int) := by have := HN.out; omega
          have HY1 := Lib.hid hy
          have HQ := Lib.hid hq
          have HYN := Lib.hid hyn
          have HYR := Lib.hid hyr
          have HNB : Hid (gN ≠ W.heap.size ∧ wi.heap.size ≠ W.heap.size) := Lib.hid HNE.out
          have hq0 : (0 : Int) ≤ (q : Int) := by omega
          have hq1 : (q : Int) < 32 := by omega
          have HSZ : Hid (SzF (stF L (evs L i ++ ps.take j) (zer256, zer32))) := Lib.hid (szF_fold HM.out _ _ (fun p hp => by
            rcases List.mem_append.1 hp with hp | hp
            · unfold evs at hp
              obtain ⟨x', _, hp⟩ := List.mem_flatMap.1 hp
              obtain ⟨y', q1, _, q2⟩ := pls_mem hp
              exact ⟨y', q1, q2⟩
            · obtain ⟨y', q1, _, q2⟩ := HPM.out p (List.mem_of_mem_take hp)
              exact ⟨y', q1, q2⟩) szF_zero)
          obtain ⟨O, k1, k2, k3, k4, k5⟩ := HRZ.out
          have HK1 := Lib.hid k1
          have HK2 := Lib.hid k2
          have HK3 := Lib.hid k3
          have HK4 := Lib.hid k4
          have HK5 := Lib.hid k5
          clear k1 k2 k3 k4 k5 HRZ
          have ck : wz.cell? ⟨wi.heap.size, 0, none⟩ = some (.int .i8 y.k) := HYZ.out.cell 0
          have cb : wz.cell? ⟨wi.heap.size, 4, none⟩ = some (.int .i64 (q : Int)) := by rw [← HQ.out]; exact HYZ.out.cell 4
          have cv0 : wz.cell? ⟨wi.heap.size, 5, none⟩ = some (.int .u8 y.x0) := HYZ.out.cell 5
          have cv1 : wz.cell? ⟨wi.heap.size, 6, none⟩ = some (.int .u8 y.x1) := HYZ.out.cell 6
          have cv2 : wz.cell? ⟨wi.heap.size, 7, none⟩ = some (.int .u8 y.x2) := HYZ.out.cell 7
          have cv3 : wz.cell? ⟨wi.heap.size, 8, none⟩ = some (.int .u8 y.x3) := HYZ.out.cell 8
          have cv4 : wz.cell? ⟨wi.heap.size, 9, none⟩ = some (.int .u8 y.x4) := HYZ.out.cell 9
          have cv5 : wz.cell? ⟨wi.heap.size, 10, none⟩ = some (.int .u8 y.x5) := HYZ.out.cell 10
          have cv6 : wz.cell? ⟨wi.heap.size, 11, none⟩ = some (.int .u8 y.x6) := HYZ.out.cell 11
          have cv7 : wz.cell? ⟨wi.heap.size, 12, none⟩ = some (.int .u8 y.x7) := HYZ.out.cell 12
          have cn0 : wz.cell? ⟨gN, 0, none⟩ = some (.int .i64 x.s) := HXZ.out.cell 0
          have cn1 : wz.cell? ⟨gN, 1, none⟩ = some (.int .i64 x.i) := HXZ.out.cell 1
          have cn2 : wz.cell? ⟨gN, 2, none⟩ = some (.int .i64 x.t) := HXZ.out.cell 2
          unfold Sn.cs at hwz
          rw [HQ.out] at hwz
          clear hvb hcP hkl e9 hcL hgz hy hyn hyr hyb hgP hgL rdp HRI HXI hL
          by_cases hk : y.k = 2
          · have bk : (y.k == (2 : Int)) = true := by simp [hk]
            have HK := Lib.hid hk
            clear hk
            have HGD : Hid (Grows wz wz.drew) := Lib.hid (Grows.refl _).drew
            have HR10 : Hid (Rds10 W.heap.size (W.heap.size + 1) gN wi.heap.size q y.x0 y.x1 y.x2 y.x3 y.x4 y.x5 y.x6 y.x7 x.s x.i x.t wz) := Lib.hid (by
              have h1 := HXZ.out.grows HGD.out
              have h2 := HYZ.out.grows HGD.out
              have h3 := HK4.out.grows HGD.out
              have h4 := HK5.out.grows HGD.out
              refine ⟨?_, h3.there (q * 8) 8 (by simp [ivs_len, HSZ.out.bl]; omega), (At.setCells_far h4 (b := W.heap.size) (by omega) _ _ h4).there (q * 3) 3 (by simp [rows_length Nm.cs_len, HSZ.out.wh]; omega)⟩
              rintro Wq (rfl | rfl)
              · have hA := h2
                have hB := h1
                exact ⟨by rw [← HQ.out]; exact hA.cell 4, hA.cell 5, hA.cell 6, hA.cell 7, hA.cell 8, hA.cell 9, hA.cell 10, hA.cell 11, hA.cell 12, hB.cell 0, hB.cell 1, hB.cell 2⟩
              · have hA := At.setCells_far h2 (b := W.heap.size) HNB.out.2 [(.int .u8 y.x0), (.int .u8 y.x1), (.int .u8 y.x2), (.int .u8 y.x3), (.int .u8 y.x4), (.int .u8 y.x5), (.int .u8 y.x6), (.int .u8 y.x7)] (q * 8) h2
                have hB := At.setCells_far h1 (b := W.heap.size) HNB.out.1 [(.int .u8 y.x0), (.int .u8 y.x1), (.int .u8 y.x2), (.int .u8 y.x3), (.int .u8 y.x4), (.int .u8 y.x5), (.int .u8 y.x6), (.int .u8 y.x7)] (q * 8) h1
                exact ⟨by rw [← HQ.out]; exact hA.cell 4, hA.cell 5, hA.cell 6, hA.cell 7, hA.cell 8, hA.cell 9, hA.cell 10, hA.cell 11, hA.cell 12, hB.cell 0, hB.cell 1, hB.cell 2⟩)
            have HNX2 := Lib.hid (RdS_write HJ.out HSZ.out (HJ.out _ _ _ _ HK1.out (Kp.grows HGD.out)) (fun i hi => ⟨(HK2.out i hi).1, Nat.lt_of_lt_of_le (HK2.out i hi).2.1 HGD.out.size, (HK2.out i hi).2.2⟩) (fun i hi => Nat.lt_of_lt_of_le (HK3.out i hi) HGD.out.size) (HK4.out.grows HGD.out) (HK5.out.grows HGD.out) (by simp) (by simp) HY1.out HK.out HQ.out hq32 HYN.out)
            have HGN := Lib.hid (At.setCells_far (HXZ.out.grows HGD.out) (b := W.heap.size) HNB.out.1 (ivs y.val) (q * 8) (HXZ.out.grows HGD.out))
            have HGN2 := Lib.hid (At.setCells_far HGN.out (b := W.heap.size + 1) (by have := HGNE.out; omega) x.cs (q * 3) HGN.out)
            have hwr : IntKind.i64.wrap ((j : Int) + 1) = (j : Int) + 1 := IntWalk.i64_in _ (by have := HPL.out; omega)
            obtain ⟨W3, hW3⟩ : ∃ W3, (wz.drew.setCells W.heap.size (q * 8) (ivs y.val)).setCells (W.heap.size + 1) (q * 3) x.cs = W3 := ⟨_, rfl⟩
            have HNX3 : Hid (RdS J L W.heap.size [W.heap.size, W.heap.size + 1, gN] (evs L i ++ ps.take j ++ [p]) W3) := Lib.hid (by rw [← hW3]; exact HNX2.out)
            have HGN3 : Hid (At W3 gN 29 #[.int .i64 x.s, .int .i64 x.i, .int .i64 x.t]) := Lib.hid (by rw [← hW3]; exact HGN2.out)
            clear HNX2 HGN HGN2
            gi_wp2
            refine wpIn_wide.2 ?_
            refine region10 W.heap.size (W.heap.size + 1) gN wi.heap.size q _ _ _ _ _ _ _ _ _ _ _ _ _ _ _ _ _ _ _ _ _ _ _ _ _ _ _ _ _ _ _ _ _ _ _ _ _ _ _ _ _ _ _ _ _ _ _ _ _ _ _ _ _ _ _ _ _ _ _ _ _ _ _ _ _ _ _ _ _ _ _ _ _ _ _ _ hq1 wz HR10.out ?_
            intro u35 u36 u37 u38 u39 u40 u41 u42 u43
            have hW4 : ((wz.drew.setCells W.heap.size (q * 8) (#[.int .u8 y.x0, .int .u8 y.x1, .int .u8 y.x2, .int .u8 y.x3, .int .u8 y.x4, .int .u8 y.x5, .int .u8 y.x6, .int .u8 y.x7] : Array Value).toList).setCells (W.heap.size + 1) (q * 3) (#[.int .i64 x.s, .int .i64 x.i, .int .i64 x.t] : Array Value).toList) = W3 := hW3
            rw [hW4]
            clear hW3 hW4
            gi_wp2
            exact ⟨⟨j + 1, rfl, by omega, by rw [HTK.out]; exact HNX3.out, HGN3.out⟩, by simp only [numOf]; omega⟩
          · have bk : (y.k == (2 : Int)) = false := by simp [hk]
            have HK := Lib.hid hk
            clear hk
            have hblk := blk_len HSZ.out.bl hq32
            obtain ⟨o0, o1, o2, o3, o4, o5, o6, o7, hov⟩ := eight_of hblk
            obtain ⟨z, hzq⟩ : ∃ z, (stF L (evs L i ++ ps.take j) (zer256, zer32)).2[q]? = some z := ⟨_, List.getElem?_eq_getElem (by rw [HSZ.out.wh]; exact hq32)⟩
            have HALL : Hid (Rds11 bl W.heap.size (W.heap.size + 1) gN wi.heap.size p q (r + 2) o0 y.x0 o1 y.x1 o2 y.x2 o3 y.x3 o4 y.x4 o5 y.x5 o6 y.x6 o7 y.x7 x.s x.i x.t z.s z.i z.t (wasF L L.length (p : Int)).s (wasF L L.length (p : Int)).i (wasF L L.length (p : Int)).t wz) := Lib.hid (by
              intro Wq hq
              have hvz := HV.out _ _ _ (HJ.out _ _ _ _ HK1.out (Kp.grows hq))
              have hA := HK4.out.grows hq
              have hB := HK5.out.grows hq
              refine ⟨⟨by rw [← HQ.out]; exact (HYZ.out.grows hq).cell 4, (HYZ.out.grows hq).cell 5, (HYZ.out.grows hq).cell 6, (HYZ.out.grows hq).cell 7, (HYZ.out.grows hq).cell 8, (HYZ.out.grows hq).cell 9, (HYZ.out.grows hq).cell 10, (HYZ.out.grows hq).cell 11, (HYZ.out.grows hq).cell 12, (HXZ.out.grows hq).cell 0, (HXZ.out.grows hq).cell 1, (HXZ.out.grows hq).cell 2, blk_cell hA hov 0 rfl, blk_cell hA hov 1 rfl, blk_cell hA hov 2 rfl, blk_cell hA hov 3 rfl, blk_cell hA hov 4 rfl, blk_cell hA hov 5 rfl, blk_cell hA hov 6 rfl, blk_cell hA hov 7 rfl, nm_cell hB hzq 0 rfl, nm_cell hB hzq 1 rfl, nm_cell hB hzq 2 rfl, hvz.box.cell 4⟩, ?_⟩
              exact hvz.vw.was.look kInt Try.underlying61 (znm _) (a := (p : Int)) (by have := HNL.out; unfold inI; omega))
            have HYW : Hid (wasF L L.length (p : Int) = wasA L p) := Lib.hid (by
              have hpl := (List.getElem?_eq_some_iff.1 HY1.out).1
              unfold wasF
              rw [if_pos ⟨by omega, by omega⟩, Int.toNat_natCast])
            generalize hyw : wasF L L.length (p : Int) = yw at *
            have HOV := Lib.hid hov
            have HZQ := Lib.hid hzq
            clear hyw hov hzq hblk
            have HF : Hid ((mkF L p y (stF L (evs L i ++ ps.take j) (zer256, zer32))).cs.toArray = #[.int .i64 (p : Int), .int .i64 x.s, .int .i64 x.i, .int .i64 x.t, .int .i64 (q : Int), .int .u8 o0, .int .u8 o1, .int .u8 o2, .int .u8 o3, .int .u8 o4, .int .u8 o5, .int .u8 o6, .int .u8 o7, .int .u8 y.x0, .int .u8 y.x1, .int .u8 y.x2, .int .u8 y.x3, .int .u8 y.x4, .int .u8 y.x5, .int .u8 y.x6, .int .u8 y.x7, .int .i64 z.s, .int .i64 z.i, .int .i64 z.t, .int .i64 yw.s, .int .i64 yw.i, .int .i64 yw.t, .int .i8 0]) := Lib.hid (by
              unfold mkF Ft.cs
              simp only [Int.toNat_natCast, HOV.out, ← HYW.out, HYN.out, HQ.out, List.getD_eq_getElem?_getD, HZQ.out, Option.getD_some]
              rfl)
            obtain ⟨W3, hW3⟩ : ∃ W3, ((wz.alloc (.cells #[.int .i64 0, .int .i64 0, .int .i64 0, .int .i64 0, .int .i64 0, .int .u8 0, .int .u8 0, .int .u8 0, .int .u8 0, .int .u8 0, .int .u8 0, .int .u8 0, .int .u8 0, .int .u8 0, .int .u8 0, .int .u8 0, .int .u8 0, .int .u8 0, .int .u8 0, .int .u8 0, .int .u8 0, .int .i64 0, .int .i64 0, .int .i64 0, .int .i64 0, .int .i64 0, .int .i64 0, .int .i8 0] 34)).drew).setCells wz.heap.size 0 (#[.int .i64 (p : Int), .int .i64 x.s, .int .i64 x.i, .int .i64 x.t, .int .i64 (q : Int), .int .u8 o0, .int .u8 o1, .int .u8 o2, .int .u8 o3, .int .u8 o4, .int .u8 o5, .int .u8 o6, .int .u8 o7, .int .u8 y.x0, .int .u8 y.x1, .int .u8 y.x2, .int .u8 y.x3, .int .u8 y.x4, .int .u8 y.x5, .int .u8 y.x6, .int .u8 y.x7, .int .i64 z.s, .int .i64 z.i, .int .i64 z.t, .int .i64 yw.s, .int .i64 yw.i, .int .i64 yw.t, .int .i8 0] : Array Value).toList = W3 := ⟨_, rfl⟩
            have HG3 : Hid (Grows wz W3) := Lib.hid (by
              rw [← hW3]
              exact (Turns.sets (O := fun i => i = wz.heap.size) (g := wz.heap.size) (.inl rfl) _ 0 ((Turns.refl _ wz).grows ((Grows.refl _).alloc _).drew)).low (Grows.refl wz) (fun i hi => by omega))
            have HF3 : Hid (At W3 wz.heap.size 34 #[.int .i64 (p : Int), .int .i64 x.s, .int .i64 x.i, .int .i64 x.t, .int .i64 (q : Int), .int .u8 o0, .int .u8 o1, .int .u8 o2, .int .u8 o3, .int .u8 o4, .int .u8 o5, .int .u8 o6, .int .u8 o7, .int .u8 y.x0, .int .u8 y.x1, .int .u8 y.x2, .int .u8 y.x3, .int .u8 y.x4, .int .u8 y.x5, .int .u8 y.x6, .int .u8 y.x7, .int .i64 z.s, .int .i64 z.i, .int .i64 z.t, .int .i64 yw.s, .int .i64 yw.i, .int .i64 yw.t, .int .i8 0]) := Lib.hid (by
              rw [← hW3]
              have h1 : At (wz.alloc (.cells #[.int .i64 0, .int .i64 0, .int .i64 0, .int .i64 0, .int .i64 0, .int .u8 0, .int .u8 0, .int .u8 0, .int .u8 0, .int .u8 0, .int .u8 0, .int .u8 0, .int .u8 0, .int .u8 0, .int .u8 0, .int .u8 0, .int .u8 0, .int .u8 0, .int .u8 0, .int .u8 0, .int .u8 0, .int .i64 0, .int .i64 0, .int .i64 0, .int .i64 0, .int .i64 0, .int .i64 0, .int .i8 0] 34)).drew wz.heap.size 34 #[.int .i64 0, .int .i64 0, .int .i64 0, .int .i64 0, .int .i64 0, .int .u8 0, .int .u8 0, .int .u8 0, .int .u8 0, .int .u8 0, .int .u8 0, .int .u8 0, .int .u8 0, .int .u8 0, .int .u8 0, .int .u8 0, .int .u8 0, .int .u8 0, .int .u8 0, .int .u8 0, .int .u8 0, .int .i64 0, .int .i64 0, .int .i64 0, .int .i64 0, .int .i64 0, .int .i64 0, .int .i8 0] := (At.new wz _ _).grows (Grows.refl _).drew
              exact At.setCells _ 0 h1 (by simp))
            have HSP : Hid (∃ R, plsD L = (evs L i ++ ps.take j) ++ p :: R) := Lib.hid (by
              obtain ⟨R, hR⟩ := evs_split (L := L) (i := i + 1) (by have := HD.out; omega)
              refine ⟨ps.drop (j + 1) ++ R, ?_⟩
              rw [hR, HNX.out, ← List.take_append_drop (j + 1) ps]
              rw [List.append_assoc, List.append_assoc]
              have := HTK.out
              rw [List.take_append_drop] 
              rw [← List.append_assoc (evs L i), HTK.out]
              simp)
            obtain ⟨RR, hRR⟩ := HSP.out
            have HY' := Lib.hid (HY.out _ _ W3 _ (readsF_at hRR HY1.out HK.out) (HJ.out _ _ _ _ HK1.out (Kp.grows HG3.out)))
            clear hRR HSP
            obtain ⟨fa, hfa⟩ : ∃ fa, (mkF L p y (stF L (evs L i ++ ps.take j) (zer256, zer32))).cs.toArray = fa := ⟨_, rfl⟩
            rw [hfa] at HF HY'
            have HLD : Hid ((loadVar 34 ⟨wz.heap.size, 0, none⟩).run Try.prog W3 = .ok (.agg fa) W3) := Lib.hid (by
              rw [HF.out]
              exact run_loadVar_row W3 wz.heap.size 34 34 _ (0, 0) _ HF3.out Try.underlying34 rfl (by kernel_rfl))
            clear hfa
            obtain ⟨fn, tmps, assign, body, hy, hRd⟩ := HY'.out
            have HRd := Lib.hid hRd
            clear hRd HY'
            have hq1' := hq1
            gi_wp2
            refine wpIn_wide.2 ?_
            refine region11 bl W.heap.size (W.heap.size + 1) gN wi.heap.size p q (r + 2) _ _ _ _ _ _ _ _ _ _ _ _ _ _ _ _ _ _ _ _ _ _ _ _ _ _ _ _ _ _ _ _ _ _ _ _ _ _ _ _ _ _ _ _ _ _ _ _ _ _ _ _ _ _ _ _ _ _ _ _ _ _ _ _ _ _ _ _ _ _ _ _ _ _ _ _ _ _ _ _ _ _ _ _ _ _ _ _ hq1 wz HALL.out ?_
            intro u44 u45 u46 u47 u48 u49 u50 u51 u52 u53 u54 u55 u56 u57 u58 u59 u60 u61 u62
            rw [hW3]
            clear hW3
            have hwr : IntKind.i64.wrap ((j : Int) + 1) = (j : Int) + 1 := IntWalk.i64_in _ (by have := HPL.out; omega)
            gi_wp2_with (first | (with_reducible refine wpListIn_load (o := ⟨some 64, .load 34 (.tmp 10), _, _, _, none⟩) rfl 34 (.tmp 10) rfl wz.heap.size 0 (.agg fa) ?a1 ?a2 ?_) | (refine HRd.out.mono ?_; rintro e W2 (⟨rfl, O', hj2, ht2⟩ | ⟨rfl, h2⟩)))
            case a1 => rfl
            case a2 => exact HLD.out
            · have HNX2 := Lib.hid (RdS_read HJ0.out HK2.out HK4.out HK5.out HG3.out (by simp) (by simp) HY1.out HK.out hj2 ht2)
              have HGN2 := Lib.hid (ht2.at (HXZ.out.grows HG3.out) (HK2.out gN (by simp)).1)
              (try gi_wp2)
              exact ⟨⟨j + 1, rfl, by omega, by rw [HTK.out]; exact HNX2.out, HGN2.out⟩, by simp only [numOf]; omega⟩
            · exact bodyPost_ret (results_none rfl _ _ _) rfl ⟨⟨_, rfl⟩, .inr h2⟩
        · have hje : j = ps.length := by omega
          subst hje
          have HFIN : Hid (RdS J L W.heap.size [W.heap.size, W.heap.size + 1] (evs L (i + 1)) wi) := Lib.hid (by
            have h := HRI.out
            rw [List.take_length] at h
            rw [HNX.out]
            obtain ⟨O, h1, h2, h3⟩ := h
            exact ⟨O, h1, fun b hb => h2 b (by simp only [List.mem_cons, List.not_mem_nil, or_false] at hb ⊢; omega), h3⟩)
          have hwr : IntKind.i64.wrap ((i : Int) + 1) = (i : Int) + 1 := IntWalk.i64_in _ (by have := HDN.out; omega)
          clear hlj hj
          gi_wp2
          exact ⟨⟨i + 1, rfl, by omega, HFIN.out⟩, by simp only [numOf]; omega⟩
    · have : i = d := by omega
      subst this
      have HE : Hid (RdS J L W.heap.size [W.heap.size, W.heap.size + 1] (plsD L) wr) := Lib.hid (by have := HRW.out; rwa [← HD.out, evs_all] at this)
      clear hlt hi
      gi_wp2
      go_end0
      obtain ⟨O, h1, _⟩ := HE.out
      exact ⟨⟨_, rfl⟩, .inl ⟨O, h1⟩⟩
end Go.Proofs.Ytfigoeoimefngaa
