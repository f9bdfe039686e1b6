/-
  The reference's Reads: all reads that count, as faults.
-/
import Derived.Test.YtfigoeoimefngaaWqB
import Derived.Test.YtfigoeoimefngaaPg
import Derived.Test.YtfigoeoimefngaaWnD
namespace Go.Proofs.Ytfigoeoimefngaa
open Go.RowKit Go.Maps Go.Shelf

theorem wpList_buildOne {P : Program} {ops : Array Oper} {rest : List Oper} {o : Oper} {a : Act} {w : World} {Q : Exit → Act → World → Prop} (hgd : o.guard = none) (t e : TypeId) (y : Operand) (ho : o.op = .buildSlice t 1 #[(0, y)]) (cells : Array Value) (ie : TypeInfo) (z : Value) (hu : P.underlying t = some (.slice e)) (hie : P.info? e = some ie) (hz : ie.zero = some z) (hs : ie.size = cells.size) (hpos : 0 < cells.size) (hsm : cells.size ≤ 1000)
    (hy : a.eval y = .agg cells) (h : wpList P ops Q rest (a.put o.dst (.slice (some ⟨w.heap.size, 0, none⟩) 1 1)) (w.alloc (.cells cells e))) : wpList P ops Q (o :: rest) a w := by
  have hf : Instr.fill (fun i => some (i * ie.size, ie.size)) ((Array.range (1 * ie.size)).map (z.cells[· % z.cells.size]!)) [(0, .agg cells)] = some cells := by
    have := Great.fill_whole (s := ie.size) (by omega) [.agg cells] ((Array.range (1 * ie.size)).map (z.cells[· % z.cells.size]!)) (by intro v hv; simp only [List.mem_cons, List.not_mem_nil, or_false] at hv; subst hv; exact hs.symm) (by simp)
    rw [show ([.agg cells] : List Value).flatMap (fun v => v.cells.toList) = cells.toList by simp [Value.cells]] at this
    rw [show cells.toList.toArray = cells by simp] at this
    exact this
  refine wpList_buildSlice hgd t e 1 #[(0, y)] ho cells ie z hu hie hz (by rw [hs]; omega) (by rw [hs]; omega) ?_ h
  simp only [List.map_toArray, List.map_cons, List.map_nil, hy]
  exact hf
theorem step_build {P : Program} {w : World} {ops : Array Oper} {o : Oper} {a : Act} {K : Act → World → Prop} {Q : Exit → Act → World → Prop} {E : Prop} (hgd : o.guard = none) (t : TypeId) (parts : Array (Nat × Operand)) (ho : o.op = .build t parts)
    (vals : List (Nat × Value)) (hv : parts.toList.map (fun (i, x) => (i, a.eval x)) = vals) (cells : Array Value) (hc : P.built t vals = some cells)
    (hK : K (a.put o.dst (.agg cells)) w) : if Region.wanted o (yielded ops a.tmps) = true then Oper.wp P o a w K Q else E := by
  have hw : Region.wanted o (yielded ops a.tmps) = true := by simp [Region.wanted, hgd]
  rw [if_pos hw]
  rw [← hv, ← Array.toList_map] at hc
  exact wp_build t parts ho (by rw [hc]; rfl) (by rw [hc]; exact hK)
theorem rows_set3 (n : Nm) : ∀ (l : List Nm) (q : Nat), q < l.length → rowsOf Nm.cs (l.set q n) = spl (rowsOf Nm.cs l) (q * 3) n.cs
  | [], _, h => by simp at h
  | m :: l, 0, _ => rfl
  | m :: l, q + 1, h => by
    have ih := rows_set3 n l q (by simpa using h)
    rw [List.set_cons_succ, rows_cons, rows_cons, ih, show (q + 1) * 3 = m.cs.length + q * 3 by rw [Nm.cs_len]; omega, spl_right]
theorem name_at3 {w : World} {g : Nat} {t : TypeId} {l : List Nm} (h : At w g t (rowsOf Nm.cs l).toArray) {q : Nat} (hq : q < l.length) : ∀ W, Grows w W → (loadVar 29 ⟨g, q * 3, none⟩).run Try.prog W = .ok (l.getD q Nm.zero).v W := by
  have hl : q * 3 + 3 ≤ (rowsOf Nm.cs l).length := by rw [rows_length Nm.cs_len]; omega
  have := ld_mid (P := Try.prog) (o := q * 3) (n := 3) h Try.underlying29 rfl hl (by kernel_rfl)
  have e : ((rowsOf Nm.cs l).drop (q * 3)).take 3 = (l.getD q Nm.zero).cs := by
    refine List.ext_getElem? (fun j => ?_)
    rw [List.getElem?_take, List.getD_eq_getElem?_getD, List.getElem?_eq_getElem hq]
    by_cases hj : j < 3
    · rw [if_pos hj, List.getElem?_drop, rows_get Nm.cs_len l q j hq hj]
      rfl
    · rw [if_neg hj]
      symm
      rw [List.getElem?_eq_none_iff, Nm.cs_len]
      omega
  rw [e] at this
  exact this
theorem ld_nm {w : World} {a : Option Addr} {L : List Nm} (h : Rd w a (rowsOf Nm.cs L)) {i : Nat} {x : Nm} (hi : L[i]? = some x) :
    ∃ g off, a = some ⟨g, off, none⟩ ∧ g < w.heap.size ∧ w.rangeAt g (off + i * 3) x.cs := by
  obtain ⟨hil, hx⟩ := List.getElem?_eq_some_iff.1 hi
  obtain ⟨g, off, rfl, hg, hc⟩ := h.at (show 0 < (rowsOf Nm.cs L).length by rw [rows_length Nm.cs_len]; omega)
  refine ⟨g, off, rfl, hg, fun j v hv => ?_⟩
  have hj : j < 3 := by have := (List.getElem?_eq_some_iff.1 hv).1; rwa [Nm.cs_len] at this
  have h1 := rows_get (f := Nm.cs) Nm.cs_len L i j hil hj
  rw [hx, hv] at h1
  obtain ⟨h2, h3⟩ := List.getElem?_eq_some_iff.1 h1
  have := hc _ h2
  rw [h3] at this
  rw [Nat.add_assoc]; exact this
theorem At.whole {w : World} {g : Nat} {t : TypeId} {cs vs : Array Value} (h : At w g t cs) (hl : vs.size = cs.size) : At (w.setCells g 0 vs.toList) g t vs := by
  have := At.all (cs := cs.toList) (vs := vs.toList) (by simpa using h) (by simpa using hl)
  simpa using this
set_option maxRecDepth 100000 in
theorem fault_built (k q : Int) (n wn m : Nm) (v0 v1 v2 v3 v4 v5 v6 v7 x0 x1 x2 x3 x4 x5 x6 x7 : Int) : Try.prog.built 34 [(0, .int .i64 k), (1, .agg #[.int .i64 n.s, .int .i64 n.i, .int .i64 n.t]), (2, .int .i64 q), (3, .agg #[.int .u8 v0, .int .u8 v1, .int .u8 v2, .int .u8 v3, .int .u8 v4, .int .u8 v5, .int .u8 v6, .int .u8 v7]), (4, .agg #[.int .u8 x0, .int .u8 x1, .int .u8 x2, .int .u8 x3, .int .u8 x4, .int .u8 x5, .int .u8 x6, .int .u8 x7]), (5, .agg #[.int .i64 wn.s, .int .i64 wn.i, .int .i64 wn.t]), (6, .agg #[.int .i64 m.s, .int .i64 m.i, .int .i64 m.t])] = some #[.int .i64 k, .int .i64 n.s, .int .i64 n.i, .int .i64 n.t, .int .i64 q, .int .u8 v0, .int .u8 v1, .int .u8 v2, .int .u8 v3, .int .u8 v4, .int .u8 v5, .int .u8 v6, .int .u8 v7, .int .u8 x0, .int .u8 x1, .int .u8 x2, .int .u8 x3, .int .u8 x4, .int .u8 x5, .int .u8 x6, .int .u8 x7, .int .i64 wn.s, .int .i64 wn.i, .int .i64 wn.t, .int .i64 m.s, .int .i64 m.i, .int .i64 m.t, .int .i8 0] := by kernel_rfl
def kdR (D : List Nm) (f : Ft) : Ft := { f with k := kindR D f }
theorem decL_nodup {L : List Sn} (hm : mayB L = true) : (decL L).Nodup := (decL_rises (com_at L hm)).imp (fun {a b} hab e => by rw [e] at hab; omega)
theorem kdR_kdF {L : List Sn} (hm : mayB L = true) (f : Ft) : kdR (decL L) f = kdF L f := by unfold kdR kdF; rw [kind_same (decL_nodup hm)]
/-- The state of Reads. -/
structure RsC (w2 : World) (S0 : Nat) (s : List Int × List Nm) (fs : List Ft) (v : Value) (W : World) : Prop where
  g : Grows w2 W
  st : At W S0 46 (ivs s.1).toArray
  wh : At W (S0 + 1) 77 (rowsOf Nm.cs s.2).toArray
  out : W.ownsRow (S0 + 2) 34 28 v fs.length (rowsOf Ft.cs fs)
theorem RsC.grows {w2 : World} {S0 : Nat} {s : List Int × List Nm} {fs : List Ft} {v : Value} {W W' : World} (h : RsC w2 S0 s fs v W) (hg : Grows W W') : RsC w2 S0 s fs v W' := ⟨h.g.trans hg, h.st.grows hg, h.wh.grows hg, own_grows h.out hg⟩
def ReadsP (L : List Sn) (w : World) (e : Ending) (w' : World) : Prop :=
  Grows w w' ∧ ((mayB L = false ∧ e = .returned (.tuple #[.slice none 0 0, .int .i64 2])) ∨
    (mayB L = true ∧ ∃ v, e = .returned (.tuple #[v, .int .i64 0]) ∧ w'.ownsRow w.heap.size 34 28 v ((readsF L).map (kdF L)).length (rowsOf Ft.cs ((readsF L).map (kdF L)))))
set_option maxRecDepth 100000 in
set_option maxHeartbeats 16000000 in
theorem reads32_any (L : List Sn) (n : Nat) (hn : L.length = n) (hL : n ≤ 1048576) (hok : ∀ x ∈ L, x.n.ok ∧ x.wk.ok) (a : Option Addr) (cap : Nat) (w : World) (hr : Rd w a (rowsOf Sn.cs L)) :
    Calls Try.prog 33 #[.slice a n cap] w (ReadsP L w) := by
  obtain ⟨Z, hZ⟩ : ∃ Z, ivs zer256 = Z := ⟨_, rfl⟩
  obtain ⟨ZN, hZN⟩ : ∃ ZN, rowsOf Nm.cs zer32 = ZN := ⟨_, rfl⟩
  have hz := z46
  have hzn := z77
  rw [hZ] at hz
  rw [hZN] at hzn
  have HZ := Lib.hid hZ
  have HZN := Lib.hid hZN
  clear hZ hZN
  have hfz := fz_zero
  have HR := Lib.hid hr
  have HN := Lib.hid hn
  have HNL := Lib.hid hL
  have HOK := Lib.hid hok
  have HOA := Lib.hid (order27_any L n hn hL a cap w hr)
  clear hr hn hL hok
  go_enter Try.func33, Try.ntmps33
  go_wp2_with fail
  refine HOA.out.mono ?_
  clear HOA
  rintro e w2 ⟨hg2, hE⟩
  have HG2 := Lib.hid hg2
  rcases hE with ⟨hm, rfl⟩ | ⟨hm, v, rfl, ho⟩
  · have HM := Lib.hid hm
    clear hm hg2
    go_wp2_with fail
    go_ret2
    exact ⟨HG2.out, .inl ⟨HM.out, rfl⟩⟩
  · have HM := Lib.hid hm
    obtain ⟨aD, cD, rfl, _, _, _⟩ := own_slice ho
    have HRD := Lib.hid (Rd.own ho)
    obtain ⟨D, hD⟩ : ∃ D, decL L = D := ⟨_, rfl⟩
    have HD := Lib.hid hD
    have HDL : Hid (D.length ≤ n) := Lib.hid (by have := decL_len L; have := HN.out; rw [← hD]; omega)
    rw [hD] at HRD ⊢
    clear hm hg2 ho hD
    obtain ⟨S0, hS0⟩ : ∃ S0, w2.heap.size = S0 := ⟨_, rfl⟩
    obtain ⟨w3, hw3⟩ : ∃ w3, (w2.alloc (.cells Z.toArray 46)).alloc (.cells ZN.toArray 77) = w3 := ⟨_, rfl⟩
    have HC3 : Hid (RsC w2 S0 zz [] (.slice none 0 0) w3) := Lib.hid (by
      refine ⟨by rw [← hw3]; exact ((Grows.refl _).alloc _).alloc _, ?_, ?_, World.ownsRow_nil _ _ _ _⟩
      · have := At.new w2 46 Z.toArray
        rw [hS0] at this
        rw [← hw3]
        show At _ _ _ (ivs zer256).toArray
        rw [HZ.out]
        exact this.alloc _
      · have := At.new (w2.alloc (.cells Z.toArray 46)) 77 ZN.toArray
        rw [World.size_alloc, hS0] at this
        rw [← hw3]
        show At _ _ _ (rowsOf Nm.cs zer32).toArray
        rw [HZN.out]
        exact this)
    have HS0 := Lib.hid hS0
    go_wp2_with fail
    clear hw3 hS0
    go_loopg [6, 9] D.length (fun gk v6 v9 wr => ∃ i : Nat, gk + i = D.length ∧ v9 = .int .i64 (i : Int) ∧ RsC w2 S0 (stF L (plI L i) zz) ((rdF L (plI L i) zz).map (kdR D)) v6 wr)
    case atStart => exact ⟨0, by omega, rfl, HC3.out⟩
    case round =>
      obtain ⟨i, hi, rfl, hC⟩ := hrel
      have HCI := Lib.hid hC
      clear hC HC3
      by_cases hlt : i < D.length
      · obtain ⟨g, off, hag, hgD, hrD⟩ := ld_nm HRD.out (List.getElem?_eq_getElem hlt)
        subst hag
        have HDX : Hid ((decL L)[i]? = some D[i]) := Lib.hid (by rw [HD.out]; exact List.getElem?_eq_getElem hlt)
        have HPN := Lib.hid (plI_more HDX.out)
        generalize D[i] = x at *
        have HLD : Hid (∀ W, Grows w2 W → (loadVar 29 ⟨g, off + i * 3, none⟩).run Try.prog W = .ok (.agg #[.int .i64 x.s, .int .i64 x.i, .int .i64 x.t]) W) := Lib.hid (ld_range hrD hgD Try.underlying29 rfl (by kernel_rfl))
        clear hrD hgD
        have hlt' : (i : Int) < (D.length : Int) := by omega
        have hi0 : (0 : Int) ≤ (i : Int) := by omega
        have hwri : IntKind.i64.wrap ((i : Int) + 1) = (i : Int) + 1 := IntWalk.i64_in _ (by have := HNL.out; have := HDL.out; omega)
        obtain ⟨PK, hPK⟩ : ∃ PK : Nat → List Nat, ∀ k, PK k = plI L i ++ plK L k x := ⟨_, fun _ => rfl⟩
        have HPK := Lib.hid hPK
        have HP0 : Hid (PK 0 = plI L i) := Lib.hid (by rw [hPK, plK_zero, List.append_nil])
        have HPE : Hid (PK n = plI L (i + 1)) := Lib.hid (by rw [hPK, HPN.out, plK_all _ (by rw [HN.out]; exact Nat.le_refl _)])
        have HPZ : Hid (∀ k, SzF (stF L (PK k) zz)) := Lib.hid (fun k => by rw [hPK]; exact szF_places HM.out i k x)
        have HPB : Hid (∀ k, (rdF L (PK k) zz).length ≤ 1099513724928) := Lib.hid (fun k => by
          have h1 := rdF_len (L := L) (PK k) zz
          rw [hPK, List.length_append] at h1
          have h2 : (plI L i).length ≤ ((decL L).take i).length * L.length := flatMap_len _ _ _ (fun y _ => Nat.le_trans (pls_len _ _) (ev_len L))
          have h3 : (plK L k x).length ≤ L.length := by
            unfold plK
            refine Nat.le_trans (pls_len _ _) (Nat.le_trans (ev_len _) ?_)
            rw [List.length_take]; omega
          have h4 := decL_len L
          have h5 : ((decL L).take i).length ≤ 1048576 := by rw [List.length_take]; have := HN.out; have := HNL.out; omega
          have h6 : ((decL L).take i).length * L.length ≤ 1048576 * 1048576 := Nat.mul_le_mul h5 (by have := HN.out; have := HNL.out; omega)
          have := HN.out
          have := HNL.out
          rw [hPK]
          omega)
        clear hPK
        go_wp2_with fail
        generalize gk = gk0 at *
        generalize wr = wo at *
        go_loopg [6, 10] n (fun gh v6 v10 wr => ∃ k : Nat, gh + k = n ∧ v10 = .int .i64 (k : Int) ∧ RsC w2 S0 (stF L (PK k) zz) ((rdF L (PK k) zz).map (kdR D)) v6 wr)
        case atStart => exact ⟨0, by omega, rfl, by rw [HP0.out]; exact HCI.out⟩
        case round =>
          obtain ⟨k, hk, rfl, hC⟩ := hrel
          have HCK := Lib.hid hC
          clear hC HCI
          generalize wr = wi at *
          by_cases hlk : k < n
          · have hkl : k < L.length := by rw [HN.out]; exact hlk
            have hy : L[k]? = some L[k] := List.getElem?_eq_getElem hkl
            generalize L[k] = y at *
            have HY := Lib.hid hy
            obtain ⟨gL, oL, rfl, hgL, hrL⟩ := ld_seen ((HR.out.grows HG2.out).grows HCK.out.g) hy
            have HRL : Hid (wi.rangeAt gL (oL + k * 14) y.cs) := Lib.hid hrL
            have hk0 : (0 : Int) ≤ (k : Int) := by omega
            have hlk' : (k : Int) < (n : Int) := by omega
            have hwrk : IntKind.i64.wrap ((k : Int) + 1) = (k : Int) + 1 := IntWalk.i64_in _ (by have := HNL.out; omega)
            have hzs := seen_zero
            obtain ⟨wX, hwX⟩ : ∃ wX, (wi.alloc (.cells Sn.zero.cs.toArray 36)).setCells wi.heap.size 0 y.cs = wX := ⟨_, rfl⟩
            have hgX : Grows wi wX := by rw [← hwX]; exact Grows.setCells (Nat.le_refl _) _ _ ((Grows.refl _).alloc _)
            have hAX : At wX wi.heap.size 36 #[.int .i8 y.k, .int .i64 y.n.s, .int .i64 y.n.i, .int .i64 y.n.t, .int .i64 y.b, .int .u8 y.x0, .int .u8 y.x1, .int .u8 y.x2, .int .u8 y.x3, .int .u8 y.x4, .int .u8 y.x5, .int .u8 y.x6, .int .u8 y.x7, .int .i64 y.e] := by rw [← hwX]; exact At.all (cs := Sn.zero.cs.toArray.toList) (vs := y.cs) (At.new wi _ _) rfl
            have HTX : Hid ((wi.alloc (.cells Sn.zero.cs.toArray 36)).there wi.heap.size 0 y.cs.toArray.size) := Lib.hid ((At.new wi _ _).there 0 _ (Nat.le_of_eq rfl))
            have HI14 : Hid ((Try.prog.info? 36).map (·.size) = some y.cs.toArray.size) := Lib.hid (by kernel_rfl)
            have HI14' : Hid ((Try.prog.info? 36).map (·.size) = some y.cs.length) := Lib.hid (by kernel_rfl)
            have HO14 : Hid (y.cs.toArray.all (·.oneCell') = true) := Lib.hid (all_oneCell_toArray (fun v hv => by have := seen_one [y]; rw [rows_one] at this; exact this v hv))
            have HAX := Lib.hid hAX
            have HCX := Lib.hid (HCK.out.grows hgX)
            have hen : ∀ W, (Op.equalIn 10000 29 (.agg #[.int .i64 y.n.s, .int .i64 y.n.i, .int .i64 y.n.t]) (.agg #[.int .i64 x.s, .int .i64 x.i, .int .i64 x.t])).run Try.prog W = .ok (decide (y.n = x)) W := fun W => eqn_any W y.n x
            clear hy hkl hrL hgX hAX hgL
            go_upto_region 14 with (first | (with_reducible refine wpList_load_mid (op := ⟨some 36, .load 36 (.tmp 35), _, _, _, none⟩) rfl 36 (.tmp 35) rfl gL (oL + k * 14) ?d1 y.cs _ HRL.out Try.underlying36 rfl HI14'.out ?_) | (with_reducible refine wpList_store_mid (op := ⟨none, .store 36 (.tmp 11) (.tmp 36), _, _, _, none⟩) rfl 36 (.tmp 11) (.tmp 36) rfl wi.heap.size 0 y.cs.toArray ?d2 ?d3 HTX.out HI14.out HO14.out ?_))
            all_goals try rfl
            go_frame
            rw [hwX]
            clear HRL HI14 HI14' HO14 HTX hwX hzs
            obtain ⟨X, hX⟩ : ∃ X, wi.heap.size = X := ⟨_, rfl⟩
            rw [hX] at HAX ⊢
            have HXS : Hid (S0 + 1 < X) := Lib.hid (by rw [← hX]; exact HCK.out.wh.lt)
            clear hX
            have L1 : Hid (∀ W, Grows wX W → (loadVar 29 ⟨X, 1, none⟩).run Try.prog W = .ok (.agg #[.int .i64 y.n.s, .int .i64 y.n.i, .int .i64 y.n.t]) W) := Lib.hid (ld_mid (P := Try.prog) (cs := _) (o := 1) (n := 3) HAX.out Try.underlying29 rfl (by simp) (by kernel_rfl))
            have L2 : Hid (∀ W, Grows wX W → (loadVar 29 ⟨g, off + i * 3, none⟩).run Try.prog W = .ok (.agg #[.int .i64 x.s, .int .i64 x.i, .int .i64 x.t]) W) := Lib.hid (fun W h => HLD.out W (HCX.out.g.trans h))
            by_cases hnx : y.n = x
            · rw [decide_eq_true hnx] at hen
              have HNX := Lib.hid hnx
              clear hnx
              refine wp_region_class wX (by kernel_rfl) (by kernel_rfl) (Grows.refl _) ?_
              repeat (first
                | go_big_quiet_skip
                | (go_big_quiet_want; first
                    | ((with_reducible refine quiet_load (b := X) (off := 1) ?_ L1.out ?_); rfl; (simp only [Act.put, List.setIfInBounds_toArray, List.set_cons_zero, List.set_cons_succ]); go_big_quiet_on)
                    | ((with_reducible refine quiet_load (b := g) (off := off + i * 3) ?_ L2.out ?_); rfl; (simp only [Act.put, List.setIfInBounds_toArray, List.set_cons_zero, List.set_cons_succ]); go_big_quiet_on)
                    | (go_big_quiet_op; (first
                        | go_big_quiet_on
                        | (refine ⟨_, fun _ _ => rfl, ?_⟩; go_big_quiet_on)))))
              refine wpQuiet_nil ?_
              intro w5 hC5
              have HC5 := Lib.hid (HCX.out.grows hC5)
              have HA5 := Lib.hid (HAX.out.grows hC5)
              clear hC5 L1 L2 hen HCX HAX HCK
              have cX := HA5.out.cell
              by_cases hk2 : y.k = 2
              · have b1 : (y.k == (1 : Int)) = false := by simp [hk2]
                have b2 : (y.k == (2 : Int)) = true := by simp [hk2]
                have hr : rwB y = true := by simp [rwB, hk2]
                have hbb := rw_block HM.out HY.out hr
                obtain ⟨q, hq⟩ : ∃ q : Nat, y.b = (q : Int) := ⟨y.b.toNat, by omega⟩
                have hq32 : q < 32 := by omega
                have HPS : Hid (PK (k + 1) = PK k ++ [k]) := Lib.hid (by rw [HPK.out, HPK.out, plK_more HY.out hr HNX.out, List.append_assoc])
                obtain ⟨hst, hrd⟩ := st_write (PK k) HY.out hk2
                have HST := Lib.hid hst
                have HRDF := Lib.hid hrd
                have HSZ := HPZ.out k
                obtain ⟨s, hs⟩ : ∃ s, stF L (PK k) zz = s := ⟨_, rfl⟩
                rw [hs] at HC5 HSZ HST
                have hw1 : (wstep y s).1 = spl s.1 (q * 8) y.val := by unfold wstep wrt; rw [if_pos hk2, if_pos hk2, hq, Int.toNat_natCast]
                have hw2 : (wstep y s).2 = s.2.set q y.n := by unfold wstep; rw [if_pos hk2, hq, Int.toNat_natCast]
                have h5 := HC5.out
                have hxs : S0 + 1 < X := HXS.out
                have hs0 := HS0.out
                obtain ⟨w6, hw6⟩ : ∃ w6, w5.setCells S0 (q * 8) (ivs y.val) = w6 := ⟨_, rfl⟩
                obtain ⟨w7, hw7⟩ : ∃ w7, w6.setCells (S0 + 1) (q * 3) y.n.cs = w7 := ⟨_, rfl⟩
                have hwh6 : At w6 (S0 + 1) 77 (rowsOf Nm.cs s.2).toArray := by rw [← hw6]; exact At.keep h5.wh (by omega) _ _
                have hX6 : At w6 X 36 #[.int .i8 y.k, .int .i64 y.n.s, .int .i64 y.n.i, .int .i64 y.n.t, .int .i64 y.b, .int .u8 y.x0, .int .u8 y.x1, .int .u8 y.x2, .int .u8 y.x3, .int .u8 y.x4, .int .u8 y.x5, .int .u8 y.x6, .int .u8 y.x7, .int .i64 y.e] := by rw [← hw6]; exact At.keep HA5.out (by omega) _ _
                have hX7 : At w7 X 36 #[.int .i8 y.k, .int .i64 y.n.s, .int .i64 y.n.i, .int .i64 y.n.t, .int .i64 y.b, .int .u8 y.x0, .int .u8 y.x1, .int .u8 y.x2, .int .u8 y.x3, .int .u8 y.x4, .int .u8 y.x5, .int .u8 y.x6, .int .u8 y.x7, .int .i64 y.e] := by rw [← hw7]; exact At.keep hX6 (by omega) _ _
                have hst6 : At w6 S0 46 (ivs (wstep y s).1).toArray := by
                  rw [← hw6, hw1, ivs_spl]
                  exact At.setCells (ivs y.val) (q * 8) h5.st (by simp [ivs_len, HSZ.bl, y.val_len]; omega)
                have HT6 : Hid (w5.there S0 (q * 8) (ivs y.val).toArray.size) := Lib.hid (h5.st.there _ _ (by simp [ivs_len, HSZ.bl, y.val_len]; omega))
                have HT7 : Hid (w6.there (S0 + 1) (q * 3) y.n.cs.toArray.size) := Lib.hid (hwh6.there _ _ (by simp [rows_length Nm.cs_len, HSZ.wh, Nm.cs_len]; omega))
                have HI8 : Hid ((Try.prog.info? 31).map (·.size) = some (ivs y.val).toArray.size) := Lib.hid (by kernel_rfl)
                have HI3 : Hid ((Try.prog.info? 29).map (·.size) = some y.n.cs.toArray.size) := Lib.hid (by kernel_rfl)
                have HO3 : Hid (y.n.cs.toArray.all (·.oneCell') = true) := Lib.hid (by simp [Nm.cs, Value.oneCell'])
                have HZ7 : Hid (RsC w2 S0 (wstep y s) ((rdF L (PK k) zz).map (kdR D)) u6 w7) := Lib.hid (by
                  refine ⟨?_, ?_, ?_, ?_⟩
                  · rw [← hw7, ← hw6]
                    exact Grows.setCells (by omega) _ _ (Grows.setCells (by omega) _ _ h5.g)
                  · rw [← hw7]; exact At.keep hst6 (by omega) _ _
                  · rw [← hw7, hw2, rows_set3 _ _ _ (by rw [HSZ.wh]; exact hq32)]
                    exact At.setCells y.n.cs (q * 3) hwh6 (by rw [rows_length Nm.cs_len, HSZ.wh, Nm.cs_len]; omega)
                  · refine own_keep h5.out (fun b hb => ?_)
                    have hb2 := (own_typed h5.out hb).choose_spec.2.1
                    have hT : Turns (fun i => i = S0 ∨ i = S0 + 1) w5 w7 (fun i => i = S0 ∨ i = S0 + 1) := by
                      rw [← hw7, ← hw6]
                      exact Turns.sets (g := S0 + 1) (.inl (.inr rfl)) _ _ (Turns.sets (g := S0) (.inl (.inl rfl)) _ _ (Turns.refl _ w5))
                    exact hT.block b (own_typed h5.out hb).choose_spec.2.2 (by omega))
                have cX6 := hX6.cell
                have cX7 := hX7.cell
                have hq0 : (0 : Int) ≤ (q : Int) := by omega
                have hq1 : (q : Int) < 32 := by omega
                rw [hq] at cX cX6 cX7
                clear hk2 hr hbb hq hst hrd HSZ hs hw1 hw2 h5 hxs hs0 hwh6 hX6 hX7 hst6 HPZ HA5
                go_wp2_with (first | (with_reducible refine wpList_store_mid (op := ⟨none, .store 31 (.tmp 51) (.tmp 50), _, _, _, none⟩) rfl 31 (.tmp 51) (.tmp 50) rfl S0 (q * 8) (ivs y.val).toArray ?f1 ?f2 HT6.out HI8.out (ivs_all y.val) ?_) | (with_reducible refine wpList_store_mid (op := ⟨none, .store 29 (.tmp 56) (.tmp 55), _, _, _, none⟩) rfl 29 (.tmp 56) (.tmp 55) rfl (S0 + 1) (q * 3) y.n.cs.toArray ?f3 ?f4 HT7.out HI3.out HO3.out ?_))
                all_goals try rfl
                go_roundg (gk - 1)
                case measure => omega
                exact ⟨k + 1, by omega, rfl, (by rw [HPS.out, HRDF.out, HST.out]; exact HZ7.out)⟩
              · have b2 : (y.k == (2 : Int)) = false := by simp [hk2]
                by_cases hk1 : y.k = 1
                · have b1 : (y.k == (1 : Int)) = true := by simp [hk1]
                  have hr : rwB y = true := by simp [rwB, hk1]
                  have hbb := rw_block HM.out HY.out hr
                  obtain ⟨q, hq⟩ : ∃ q : Nat, y.b = (q : Int) := ⟨y.b.toNat, by omega⟩
                  have hq32 : q < 32 := by omega
                  have HPS : Hid (PK (k + 1) = PK k ++ [k]) := Lib.hid (by rw [HPK.out, HPK.out, plK_more HY.out hr HNX.out, List.append_assoc])
                  obtain ⟨hst, hrd⟩ := st_read (PK k) HY.out hk1
                  have HST := Lib.hid hst
                  have HRDF := Lib.hid hrd
                  have HSZ := HPZ.out k
                  obtain ⟨s, hs⟩ : ∃ s, stF L (PK k) zz = s := ⟨_, rfl⟩
                  rw [hs] at HC5 HSZ HST HRDF
                  obtain ⟨v0, v1, v2, v3, v4, v5, v6, v7, hv⟩ := eight_of (blk_len HSZ.bl hq32)
                  obtain ⟨wn, hwn⟩ : ∃ wn, s.2.getD q Nm.zero = wn := ⟨_, rfl⟩
                  obtain ⟨m, hm⟩ : ∃ m, lastN (L.take k) y.wk = m := ⟨_, rfl⟩
                  have HLS : Hid (∀ W, Grows w5 W → (loadVar 31 ⟨S0, q * 8, none⟩).run Try.prog W = .ok (.agg #[.int .u8 v0, .int .u8 v1, .int .u8 v2, .int .u8 v3, .int .u8 v4, .int .u8 v5, .int .u8 v6, .int .u8 v7]) W) := Lib.hid (by
                    have := ld_blk32 HC5.out.st q (by rw [HSZ.bl]; omega)
                    rw [hv] at this
                    exact this)
                  have HLW : Hid (∀ W, Grows w5 W → (loadVar 29 ⟨S0 + 1, q * 3, none⟩).run Try.prog W = .ok (.agg #[.int .i64 wn.s, .int .i64 wn.i, .int .i64 wn.t]) W) := Lib.hid (by
                    have := name_at3 HC5.out.wh (q := q) (by rw [HSZ.wh]; exact hq32)
                    rw [hwn] at this
                    exact this)
                  have HWA : Hid (∀ W, Grows w5 W → Calls Try.prog 39 #[.slice (some ⟨gL, oL, none⟩) n cap, .int .i64 (k : Int)] W fun e w' => e = .returned (.agg #[.int .i64 m.s, .int .i64 m.i, .int .i64 m.t]) ∧ Grows W w') := Lib.hid (fun W hW => by
                    have := was32_any L n HN.out HNL.out (some ⟨gL, oL, none⟩) cap k y HY.out W (((HR.out.grows HG2.out).grows HC5.out.g).grows hW)
                    rw [hm] at this
                    exact this)
                  have HF0 : Hid (mkF L k y s = ⟨k, y.n, (q : Int), [v0, v1, v2, v3, v4, v5, v6, v7], y.val, wn, m, 0⟩) := Lib.hid (by
                    unfold mkF wasA
                    rw [HY.out]
                    simp only [hk1, if_true, hq, Int.toNat_natCast, hv, hwn, hm])
                  have hq0 : (0 : Int) ≤ (q : Int) := by omega
                  have hq1 : (q : Int) < 32 := by omega
                  rw [hq] at cX HA5
                  clear hk1 hk2 hr hbb hq hst hrd HSZ hs hv hwn hm HPZ
                  obtain ⟨FC, hFC⟩ : ∃ FC : Array Value, #[.int .i64 (k : Int), .int .i64 y.n.s, .int .i64 y.n.i, .int .i64 y.n.t, .int .i64 (q : Int), .int .u8 v0, .int .u8 v1, .int .u8 v2, .int .u8 v3, .int .u8 v4, .int .u8 v5, .int .u8 v6, .int .u8 v7, .int .u8 y.x0, .int .u8 y.x1, .int .u8 y.x2, .int .u8 y.x3, .int .u8 y.x4, .int .u8 y.x5, .int .u8 y.x6, .int .u8 y.x7, .int .i64 wn.s, .int .i64 wn.i, .int .i64 wn.t, .int .i64 m.s, .int .i64 m.i, .int .i64 m.t, .int .i8 0] = FC := ⟨_, rfl⟩
                  have HFC := Lib.hid hFC
                  have HFB := Lib.hid (fault_built (k : Int) (q : Int) y.n wn m v0 v1 v2 v3 v4 v5 v6 v7 y.x0 y.x1 y.x2 y.x3 y.x4 y.x5 y.x6 y.x7)
                  have HFL : Hid (FC.size = 28) := Lib.hid (by rw [← hFC]; rfl)
                  have HF1 : Hid (FC.all (·.oneCell') = true) := Lib.hid (by rw [← hFC]; exact Ft.cs_one ⟨k, y.n, (q : Int), [v0, v1, v2, v3, v4, v5, v6, v7], y.val, wn, m, 0⟩)
                  clear hFC
                  go_upto_region 19 with (fail)
                  clear cX
                  refine Prg.wp_region_pred (by kernel_rfl) (by kernel_rfl) (by kernel_rfl) _ (fun u => by simp only [List.map, Prd.frL, Act.put, List.setIfInBounds_toArray, List.set_cons_zero, List.set_cons_succ, Nat.zero_add, Nat.reduceAdd]; exact rfl)
                    (Prg.pv #[.int .i64 (k : Int), .pointer (some ⟨X, 1, none⟩), .agg #[.int .i64 y.n.s, .int .i64 y.n.i, .int .i64 y.n.t], .pointer (some ⟨X, 4, none⟩), .int .i64 (q : Int), .pointer (some ⟨X, 4, none⟩), .int .i64 (q : Int), .pointer (some ⟨S0, q * 8, none⟩), .agg #[.int .u8 v0, .int .u8 v1, .int .u8 v2, .int .u8 v3, .int .u8 v4, .int .u8 v5, .int .u8 v6, .int .u8 v7], .pointer (some ⟨X, 5, none⟩), .agg #[.int .u8 y.x0, .int .u8 y.x1, .int .u8 y.x2, .int .u8 y.x3, .int .u8 y.x4, .int .u8 y.x5, .int .u8 y.x6, .int .u8 y.x7], .pointer (some ⟨X, 4, none⟩), .int .i64 (q : Int), .pointer (some ⟨S0 + 1, q * 3, none⟩), .agg #[.int .i64 wn.s, .int .i64 wn.i, .int .i64 wn.t], .slice (some ⟨gL, oL, none⟩) n cap, .int .i64 (k : Int), .agg #[.int .i64 m.s, .int .i64 m.i, .int .i64 m.t], .agg FC, undef, undef]
                      [(19, fun _ v W => ∃ F, v = .pointer (some ⟨F, 0, none⟩) ∧ w5.heap.size ≤ F ∧ ∃ cs, At W F 34 cs ∧ cs.size = 28),
                       (20, fun c _ W => ∃ F, c = .pointer (some ⟨F, 0, none⟩) ∧ At W F 34 FC)])
                    19 (fun _ => none) (fun W => Grows w5 W) (fun _ => True) none (fun i W W' => if i = 20 then ∃ F cs, w5.heap.size ≤ F ∧ At W F 34 cs ∧ cs.size = 28 ∧ W' = W.setCells F 0 FC.toList else Grows W W')
                    ?g0 trivial (fun _ _ _ _ _ h => h) ?gr (Prg.pv_keep (gi := 19) _ ?sm) (Prg.pv_gh (x := fun _ => none) (R := fun i W W' => if i = 20 then ∃ F cs, w5.heap.size ≤ F ∧ At W F 34 cs ∧ cs.size = 28 ∧ W' = W.setCells F 0 FC.toList else Grows W W') _ ?sm2) ⟨?s0, ?s1, ?s2, ?s3, ?s4, ?s5, ?s6, ?s7, ?s8, ?s9, ?s10, ?s11, ?s12, ?s13, ?s14, ?s15, ?s16, ?s17, ?s18, ?s19, ?s20, trivial⟩ ?dn
                  case g0 => exact (Grows.refl _).drew
                  case gr =>
                    intro i W W' h hg
                    split at h
                    · obtain ⟨F, cs, h1, h2, h3, rfl⟩ := h
                      exact Grows.setCells h1 _ _ hg
                    · exact hg.trans h
                  case sm =>
                    refine ⟨⟨?_, ?_⟩, ⟨?_, ?_⟩, trivial⟩
                    · rintro c i v W W' h1 h2 h3 h4 ⟨F, rfl, hF, cs, hA, hs⟩
                      refine ⟨F, rfl, hF, ?_⟩
                      split at h4
                      · obtain ⟨F2, cs2, _, hA2, hs2, rfl⟩ := h4
                        by_cases hf : F = F2
                        · subst hf
                          exact ⟨FC, At.whole hA2 (by rw [HFL.out, hs2]), HFL.out⟩
                        · exact ⟨cs, At.keep hA hf 0 _, hs⟩
                      · exact ⟨cs, hA.grows h4, hs⟩
                    · intro c c' v W h
                      exact absurd rfl h
                    · rintro c i v W W' h1 h2 h3 h4 ⟨F, rfl, hA⟩
                      rw [if_neg h1] at h4
                      exact ⟨F, rfl, hA.grows h4⟩
                    · intro c c' v W h1 h2
                      exact Bool.noConfusion (h2.symm.trans (show _ = false by kernel_rfl))
                  case sm2 =>
                    refine ⟨⟨?_, ?_⟩, ⟨?_, ?_⟩, trivial⟩
                    · rintro c i v W W' h1 h2 h3 h4 ⟨F, rfl, hF, cs, hA, hs⟩
                      refine ⟨F, rfl, hF, ?_⟩
                      split at h4
                      · obtain ⟨F2, cs2, _, hA2, hs2, rfl⟩ := h4
                        by_cases hf : F = F2
                        · subst hf
                          exact ⟨FC, At.whole hA2 (by rw [HFL.out, hs2]), HFL.out⟩
                        · exact ⟨cs, At.keep hA hf 0 _, hs⟩
                      · exact ⟨cs, hA.grows h4, hs⟩
                    · intro c c' v W h
                      exact absurd rfl h
                    · rintro c i v W W' h1 h2 h3 h4 ⟨F, rfl, hA⟩
                      rw [if_neg h1] at h4
                      exact ⟨F, rfl, hA.grows h4⟩
                    · intro c c' v W h1 h2
                      exact Bool.noConfusion (h2.symm.trans (show _ = false by kernel_rfl))
                  case s0 =>
                    intro u W hG _ _ hd K hK
                    clear hd
                    dsimp only at hK ⊢
                    go_simp
                    exact hK (.int .i64 (k : Int)) _ (show Grows _ _ from Grows.refl _) (Prg.pv_of rfl rfl)
                  case s1 =>
                    intro u W hG _ _ hd K hK
                    clear hd
                    dsimp only at hK ⊢
                    go_simp
                    exact hK (.pointer (some ⟨X, 1, none⟩)) _ (show Grows _ _ from Grows.refl _) (Prg.pv_of rfl rfl)
                  case s2 =>
                    intro u W hG _ _ hd K hK
                    obtain ⟨d1, -⟩ := hd
                    have e1 : u 1 = .pointer (some ⟨X, 1, none⟩) := Prg.pv_at (d1 rfl (.inl rfl)) rfl
                    clear d1
                    have cx := (HA5.out.grows hG).cell
                    dsimp only at hK ⊢
                    generalize u 1 = z1 at e1 hK ⊢
                    subst e1
                    go_simp
                    exact hK (.agg #[.int .i64 y.n.s, .int .i64 y.n.i, .int .i64 y.n.t]) _ (show Grows _ _ from Grows.refl _) (Prg.pv_of rfl rfl)
                  case s3 =>
                    intro u W hG _ _ hd K hK
                    clear hd
                    dsimp only at hK ⊢
                    go_simp
                    exact hK (.pointer (some ⟨X, 4, none⟩)) _ (show Grows _ _ from Grows.refl _) (Prg.pv_of rfl rfl)
                  case s4 =>
                    intro u W hG _ _ hd K hK
                    obtain ⟨d3, -⟩ := hd
                    have e3 : u 3 = .pointer (some ⟨X, 4, none⟩) := Prg.pv_at (d3 rfl (.inl rfl)) rfl
                    clear d3
                    have cx := (HA5.out.grows hG).cell
                    dsimp only at hK ⊢
                    generalize u 3 = z3 at e3 hK ⊢
                    subst e3
                    go_simp
                    exact hK (.int .i64 (q : Int)) _ (show Grows _ _ from Grows.refl _) (Prg.pv_of rfl rfl)
                  case s5 =>
                    intro u W hG _ _ hd K hK
                    clear hd
                    dsimp only at hK ⊢
                    go_simp
                    exact hK (.pointer (some ⟨X, 4, none⟩)) _ (show Grows _ _ from Grows.refl _) (Prg.pv_of rfl rfl)
                  case s6 =>
                    intro u W hG _ _ hd K hK
                    obtain ⟨d5, -⟩ := hd
                    have e5 : u 5 = .pointer (some ⟨X, 4, none⟩) := Prg.pv_at (d5 rfl (.inl rfl)) rfl
                    clear d5
                    have cx := (HA5.out.grows hG).cell
                    dsimp only at hK ⊢
                    generalize u 5 = z5 at e5 hK ⊢
                    subst e5
                    go_simp
                    exact hK (.int .i64 (q : Int)) _ (show Grows _ _ from Grows.refl _) (Prg.pv_of rfl rfl)
                  case s7 =>
                    intro u W hG _ _ hd K hK
                    obtain ⟨d6, -⟩ := hd
                    have e6 : u 6 = .int .i64 (q : Int) := Prg.pv_at (d6 rfl (.inl rfl)) rfl
                    clear d6
                    dsimp only at hK ⊢
                    generalize u 6 = z6 at e6 hK ⊢
                    subst e6
                    go_simp
                    exact hK (.pointer (some ⟨S0, q * 8, none⟩)) _ (show Grows _ _ from Grows.refl _) (Prg.pv_of rfl rfl)
                  case s8 =>
                    intro u W hG _ _ hd K hK
                    obtain ⟨d7, -⟩ := hd
                    have e7 : u 7 = .pointer (some ⟨S0, q * 8, none⟩) := Prg.pv_at (d7 rfl (.inl rfl)) rfl
                    clear d7
                    exact step_load rfl 31 (.tmp 67) rfl S0 (q * 8) (.agg #[.int .u8 v0, .int .u8 v1, .int .u8 v2, .int .u8 v3, .int .u8 v4, .int .u8 v5, .int .u8 v6, .int .u8 v7]) e7 (HLS.out W hG) (hK (.agg #[.int .u8 v0, .int .u8 v1, .int .u8 v2, .int .u8 v3, .int .u8 v4, .int .u8 v5, .int .u8 v6, .int .u8 v7]) _ (show Grows _ _ from Grows.refl _) (Prg.pv_of rfl rfl))
                  case s9 =>
                    intro u W hG _ _ hd K hK
                    clear hd
                    dsimp only at hK ⊢
                    go_simp
                    exact hK (.pointer (some ⟨X, 5, none⟩)) _ (show Grows _ _ from Grows.refl _) (Prg.pv_of rfl rfl)
                  case s10 =>
                    intro u W hG _ _ hd K hK
                    obtain ⟨d9, -⟩ := hd
                    have e9 : u 9 = .pointer (some ⟨X, 5, none⟩) := Prg.pv_at (d9 rfl (.inl rfl)) rfl
                    clear d9
                    have cx := (HA5.out.grows hG).cell
                    dsimp only at hK ⊢
                    generalize u 9 = z9 at e9 hK ⊢
                    subst e9
                    go_simp
                    exact hK (.agg #[.int .u8 y.x0, .int .u8 y.x1, .int .u8 y.x2, .int .u8 y.x3, .int .u8 y.x4, .int .u8 y.x5, .int .u8 y.x6, .int .u8 y.x7]) _ (show Grows _ _ from Grows.refl _) (Prg.pv_of rfl rfl)
                  case s11 =>
                    intro u W hG _ _ hd K hK
                    clear hd
                    dsimp only at hK ⊢
                    go_simp
                    exact hK (.pointer (some ⟨X, 4, none⟩)) _ (show Grows _ _ from Grows.refl _) (Prg.pv_of rfl rfl)
                  case s12 =>
                    intro u W hG _ _ hd K hK
                    obtain ⟨d11, -⟩ := hd
                    have e11 : u 11 = .pointer (some ⟨X, 4, none⟩) := Prg.pv_at (d11 rfl (.inl rfl)) rfl
                    clear d11
                    have cx := (HA5.out.grows hG).cell
                    dsimp only at hK ⊢
                    generalize u 11 = z11 at e11 hK ⊢
                    subst e11
                    go_simp
                    exact hK (.int .i64 (q : Int)) _ (show Grows _ _ from Grows.refl _) (Prg.pv_of rfl rfl)
                  case s13 =>
                    intro u W hG _ _ hd K hK
                    obtain ⟨d12, -⟩ := hd
                    have e12 : u 12 = .int .i64 (q : Int) := Prg.pv_at (d12 rfl (.inl rfl)) rfl
                    clear d12
                    dsimp only at hK ⊢
                    generalize u 12 = z12 at e12 hK ⊢
                    subst e12
                    go_simp
                    exact hK (.pointer (some ⟨S0 + 1, q * 3, none⟩)) _ (show Grows _ _ from Grows.refl _) (Prg.pv_of rfl rfl)
                  case s14 =>
                    intro u W hG _ _ hd K hK
                    obtain ⟨d13, -⟩ := hd
                    have e13 : u 13 = .pointer (some ⟨S0 + 1, q * 3, none⟩) := Prg.pv_at (d13 rfl (.inl rfl)) rfl
                    clear d13
                    exact step_load rfl 29 (.tmp 73) rfl (S0 + 1) (q * 3) (.agg #[.int .i64 wn.s, .int .i64 wn.i, .int .i64 wn.t]) e13 (HLW.out W hG) (hK (.agg #[.int .i64 wn.s, .int .i64 wn.i, .int .i64 wn.t]) _ (show Grows _ _ from Grows.refl _) (Prg.pv_of rfl rfl))
                  case s15 =>
                    intro u W hG _ _ hd K hK
                    clear hd
                    dsimp only at hK ⊢
                    go_simp
                    exact hK (.slice (some ⟨gL, oL, none⟩) n cap) _ (show Grows _ _ from Grows.refl _) (Prg.pv_of rfl rfl)
                  case s16 =>
                    intro u W hG _ _ hd K hK
                    clear hd
                    dsimp only at hK ⊢
                    go_simp
                    exact hK (.int .i64 (k : Int)) _ (show Grows _ _ from Grows.refl _) (Prg.pv_of rfl rfl)
                  case s17 =>
                    intro u W hG _ _ hd K hK
                    obtain ⟨d15, d16, -⟩ := hd
                    have e15 : u 15 = .slice (some ⟨gL, oL, none⟩) n cap := Prg.pv_at (d15 rfl (.inl rfl)) rfl
                    have e16 : u 16 = .int .i64 (k : Int) := Prg.pv_at (d16 rfl (.inl rfl)) rfl
                    clear d15 d16
                    dsimp only at hK ⊢
                    generalize u 15 = z15 at e15 hK ⊢
                    subst e15
                    generalize u 16 = z16 at e16 hK ⊢
                    subst e16
                    have hC := HWA.out W hG
                    go_simp
                    refine hC.mono ?_
                    rintro e w' ⟨rfl, hg⟩
                    exact hK (.agg #[.int .i64 m.s, .int .i64 m.i, .int .i64 m.t]) _ hg (Prg.pv_of rfl rfl)
                  case s18 =>
                    intro u W hG _ _ hd K hK
                    obtain ⟨d0, d2, d4, d8, d10, d14, d17, -⟩ := hd
                    have e0 : u 0 = .int .i64 (k : Int) := Prg.pv_at (d0 rfl (.inl rfl)) rfl
                    have e2 : u 2 = .agg #[.int .i64 y.n.s, .int .i64 y.n.i, .int .i64 y.n.t] := Prg.pv_at (d2 rfl (.inl rfl)) rfl
                    have e4 : u 4 = .int .i64 (q : Int) := Prg.pv_at (d4 rfl (.inl rfl)) rfl
                    have e8 : u 8 = .agg #[.int .u8 v0, .int .u8 v1, .int .u8 v2, .int .u8 v3, .int .u8 v4, .int .u8 v5, .int .u8 v6, .int .u8 v7] := Prg.pv_at (d8 rfl (.inl rfl)) rfl
                    have e10 : u 10 = .agg #[.int .u8 y.x0, .int .u8 y.x1, .int .u8 y.x2, .int .u8 y.x3, .int .u8 y.x4, .int .u8 y.x5, .int .u8 y.x6, .int .u8 y.x7] := Prg.pv_at (d10 rfl (.inl rfl)) rfl
                    have e14 : u 14 = .agg #[.int .i64 wn.s, .int .i64 wn.i, .int .i64 wn.t] := Prg.pv_at (d14 rfl (.inl rfl)) rfl
                    have e17 : u 17 = .agg #[.int .i64 m.s, .int .i64 m.i, .int .i64 m.t] := Prg.pv_at (d17 rfl (.inl rfl)) rfl
                    clear d0 d2 d4 d8 d10 d14 d17
                    refine step_build rfl 34 _ rfl [(0, .int .i64 (k : Int)), (1, .agg #[.int .i64 y.n.s, .int .i64 y.n.i, .int .i64 y.n.t]), (2, .int .i64 (q : Int)), (3, .agg #[.int .u8 v0, .int .u8 v1, .int .u8 v2, .int .u8 v3, .int .u8 v4, .int .u8 v5, .int .u8 v6, .int .u8 v7]), (4, .agg #[.int .u8 y.x0, .int .u8 y.x1, .int .u8 y.x2, .int .u8 y.x3, .int .u8 y.x4, .int .u8 y.x5, .int .u8 y.x6, .int .u8 y.x7]), (5, .agg #[.int .i64 wn.s, .int .i64 wn.i, .int .i64 wn.t]), (6, .agg #[.int .i64 m.s, .int .i64 m.i, .int .i64 m.t])] ?_ FC (HFB.out.trans (congrArg some HFC.out)) (hK (.agg FC) _ (show Grows _ _ from Grows.refl _) (Prg.pv_of rfl rfl))
                    rw [← e0, ← e2, ← e4, ← e8, ← e10, ← e14, ← e17]
                    exact rfl
                  case s19 =>
                    intro u W hG _ _ hd K hK
                    clear hd
                    dsimp only at hK ⊢
                    go_simp
                    exact hK (.pointer (some ⟨W.heap.size, 0, none⟩)) _ (show Grows _ _ from (Grows.refl _).alloc _) (Prg.pv_sp rfl ⟨W.heap.size, rfl, hG.size, fz, At.new _ _ _, rfl⟩)
                  case s20 =>
                    intro u W hG _ _ hd K hK
                    obtain ⟨d19, d18, -⟩ := hd
                    obtain ⟨F, e19, h1, cs, h2, h3⟩ := Prg.pv_in (d19 rfl (.inl rfl)) rfl
                    have e18 : u 18 = .agg FC := Prg.pv_at (d18 rfl (.inl rfl)) rfl
                    refine step_store_mid rfl 34 (.tmp 12) (.tmp 78) rfl F 0 FC e19 e18 (h2.there 0 _ (by rw [h3, HFL.out]; exact Nat.le_refl _)) (by rw [HFL.out]; exact info_fault) HF1.out ?_
                    exact hK undef _ ⟨F, cs, h1, h2, h3, rfl⟩ (Prg.pv_sp rfl ⟨F, e19, At.whole h2 (by rw [HFL.out, h3])⟩)
                  case dn =>
                    intro u W hG hall
                    obtain ⟨-, -, -, -, -, -, -, -, -, -, -, -, -, -, -, -, -, -, -, d19, d20, -⟩ := hall
                    obtain ⟨F, e19, hF, _, _, _⟩ := Prg.pv_in (d19 rfl) rfl
                    obtain ⟨F2, e20, hAF⟩ := Prg.pv_in (d20 rfl) rfl
                    rw [e19] at e20
                    injection e20 with e20
                    injection e20 with e20
                    injection e20 with e20
                    subst e20
                    clear d19 d20
                    generalize u 19 = x19 at *
                    subst e19
                    obtain ⟨f0, hf0⟩ : ∃ f0 : Ft, mkF L k y s = f0 := ⟨_, rfl⟩
                    have hfl : FC = f0.cs.toArray := by rw [← hf0, HF0.out, ← HFC.out]; rfl
                    have HFO : Hid f0.ok := Lib.hid (by rw [← hf0, HF0.out]; exact ⟨rfl, rfl⟩)
                    have HF0' := Lib.hid hf0
                    rw [hfl] at hAF
                    have HAF := Lib.hid hAF
                    have HGW := Lib.hid hG
                    have HFW := Lib.hid hF
                    have HCW := Lib.hid (HC5.out.grows hG)
                    have HIF : Hid ((Try.prog.info? 34).map (·.size) = some f0.cs.length) := Lib.hid (by rw [Ft.cs_len HFO.out]; exact info_fault)
                    have HRF : Hid (W.rangeAt F 0 f0.cs) := Lib.hid (fun j v hv => by rw [Nat.zero_add, hAF.cell]; simpa using hv)
                    clear hAF hG hF hf0 hfl HFC HFL HF1 HLS HLW HWA HA5
                    go_wp2_with (with_reducible refine wpList_load_mid (op := ⟨some 80, .load 34 (.tmp 12), _, _, _, none⟩) rfl 34 (.tmp 12) rfl F 0 ?k1 f0.cs _ HRF.out Try.underlying34 rfl HIF.out ?_)
                    all_goals try rfl
                    refine (kind32_any D D.length rfl (Nat.le_trans HDL.out HNL.out) _ cD f0 HFO.out _ (HRD.out.grows HCW.out.g)).mono ?_
                    rintro e w7 ⟨rfl, hg7⟩
                    obtain ⟨f1, hf1⟩ : ∃ f1, kdR D f0 = f1 := ⟨_, rfl⟩
                    obtain ⟨kd, hkd⟩ : ∃ kd, kindR D f0 = kd := ⟨_, rfl⟩
                    have HKD : Hid (f1 = { f0 with k := kd }) := Lib.hid (by rw [← hf1, ← hkd]; rfl)
                    have hok1 : f1.ok := by rw [HKD.out]; exact ⟨HFO.out.want, HFO.out.got⟩
                    have HOK1 := Lib.hid hok1
                    have HF1E := Lib.hid hf1
                    rw [hkd]
                    have hA7 := HAF.out.grows hg7
                    obtain ⟨w8, hw8⟩ : ∃ w8, w7.setCell ⟨F, 27, none⟩ (.int .i8 kd) = w8 := ⟨_, rfl⟩
                    have hA8 : At w8 F 34 f1.cs.toArray := by
                      have := hA7.set 27 (.int .i8 kd)
                      rw [Ft.cs_kind HFO.out, hw8] at this
                      rw [HKD.out]; exact this
                    obtain ⟨z27, c27⟩ := at_some hA7 (i := 27) (by rw [Ft.cs_len HFO.out]; omega)
                    have f27 : w7.frozen? ⟨F, 27, none⟩ = false := hA7.frozen _
                    have hG8 : Grows w5 w8 := by rw [← hw8]; exact (HGW.out.trans hg7).setCell (p := ⟨F, 27, none⟩) HFW.out _
                    have HC8 := Lib.hid (HC5.out.grows hG8)
                    have HIF8 : Hid ((Try.prog.info? 34).map (·.size) = some f1.cs.length) := Lib.hid (by rw [Ft.cs_len hok1]; exact info_fault)
                    have HRF8 : Hid (w8.rangeAt F 0 f1.cs) := Lib.hid (fun j v hv => by rw [Nat.zero_add, hA8.cell]; simpa using hv)
                    obtain ⟨i0, hi0, hz0, hz1, hz2⟩ := info_parts info_ft
                    have HSI : Hid (i0.size = f1.cs.toArray.size) := Lib.hid (by rw [hz1, List.size_toArray, Ft.cs_len hok1])
                    have HPO : Hid (0 < f1.cs.toArray.size) := Lib.hid (by rw [List.size_toArray, Ft.cs_len hok1]; omega)
                    have HSM : Hid (f1.cs.toArray.size ≤ 1000) := Lib.hid (by rw [List.size_toArray, Ft.cs_len hok1]; omega)
                    obtain ⟨FSQ, hFS⟩ : ∃ FSQ, (rdF L (PK k) zz).map (kdR D) = FSQ := ⟨_, rfl⟩
                    have HFL : Hid (FSQ.length ≤ 1099513724928) := Lib.hid (by rw [← hFS, List.length_map]; exact HPB.out k)
                    have HFS := Lib.hid hFS
                    rw [hFS] at HC8
                    have HOW : Hid ((w8.alloc (.cells f1.cs.toArray 34)).ownsRow (S0 + 2) 34 28 u6 FSQ.length (rowsOf Ft.cs FSQ)) := Lib.hid (own_grows HC8.out.out ((Grows.refl _).alloc _))
                    have HRD8 : Hid (Rd (w8.alloc (.cells f1.cs.toArray 34)) (some ⟨w8.heap.size, 0, none⟩) f1.cs) := Lib.hid (rd_new w8 f1.cs.toArray 34 (0, 0))
                    have HML : Hid (f1.cs.length = 1 * 28) := Lib.hid (by rw [Ft.cs_len hok1])
                    have HMO : Hid (∀ u ∈ f1.cs, u.oneCell' = true) := Lib.hid (fun u hu => (Array.all_eq_true_iff_forall_mem.1 f1.cs_one) u (by simpa using hu))
                    have HMX : Hid (FSQ.length + 1 ≤ maxLen) := Lib.hid (by have := HFL.out; unfold maxLen; omega)
                    have HMB : Hid ((FSQ.length + 1) * 112 ≤ 140737488355328) := Lib.hid (by have := HFL.out; omega)
                    have HBS : Hid (S0 + 2 ≤ (w8.alloc (.cells f1.cs.toArray 34)).heap.size) := Lib.hid (by have := HC8.out.wh.lt; rw [World.size_alloc]; omega)
                    have HXS2 := Lib.hid hw8
                    clear hA7 hA8 hG8 hok1 hFS hg7 hkd hf1 HRF HIF HAF
                    go_wp2_with (first | (with_reducible refine wpList_load_mid (op := ⟨some 84, .load 34 (.tmp 12), _, _, _, none⟩) rfl 34 (.tmp 12) rfl F 0 ?k2 f1.cs _ HRF8.out Try.underlying34 rfl HIF8.out ?_) | (with_reducible refine wpList_buildOne (o := ⟨some 85, .buildSlice 24 1 #[(0, .tmp 84)], _, _, _, none⟩) rfl 24 34 (.tmp 84) rfl f1.cs.toArray i0 (.agg fz) Try.underlying24 hi0 hz0 HSI.out HPO.out HSM.out ?k3 ?_) | (at_builtin; (refine wpList_append_rd _ rfl (.tmp 83) (.tmp 85) 24 rfl (S0 + 2) 34 i0 (.agg fz) 28 112 Try.underlying24 hi0 hz0 hz1 hz2 rfl (by decide) u6 FSQ.length (rowsOf Ft.cs FSQ) rfl HOW.out (some ⟨w8.heap.size, 0, none⟩) 1 1 f1.cs rfl HRD8.out HML.out HMO.out HMX.out HMB.out HBS.out ?app)))
                    all_goals try rfl
                    case app =>
                      intro v4 w10 hown4 hgr4 _
                      have HOW4 := Lib.hid hown4
                      have HGR4 := Lib.hid hgr4
                      clear hown4 hgr4
                      have HZ10 : Hid (RsC w2 S0 (stF L (PK (k + 1)) zz) ((rdF L (PK (k + 1)) zz).map (kdR D)) v4 w10) := Lib.hid (by
                        rw [HPS.out, HRDF.out, HST.out, HF0'.out, List.map_append, HFS.out]
                        have hn : ∀ b, u6.ownBlock = some b → S0 + 2 ≤ b := fun b hb => (own_typed HOW.out hb).choose_spec.2.1
                        have h8 := HC8.out
                        have hs0 := HS0.out
                        have hst := h8.st.alloc (.cells f1.cs.toArray 34)
                        have hwh := h8.wh.alloc (.cells f1.cs.toArray 34)
                        refine ⟨(h8.g.alloc _).grown HGR4.out (fun i hi => by have := hn i hi; omega), ?_, ?_, ?_⟩
                        · exact (HGR4.out.block _ hst.lt (fun e => by have := hn _ e.symm; omega)).trans hst
                        · exact (HGR4.out.block _ hwh.lt (fun e => by have := hn _ e.symm; omega)).trans hwh
                        · have := HOW4.out
                          rw [List.length_append, List.length_map, List.length_singleton, rows_append, List.map_cons, List.map_nil, HF1E.out, rows_one]
                          exact this)
                      go_wp2_with fail
                      go_roundg (gk - 1)
                      case measure => omega
                      exact ⟨k + 1, by omega, rfl, HZ10.out⟩
                · have b1 : (y.k == (1 : Int)) = false := by simp [hk1]
                  have HPS : Hid (PK (k + 1) = PK k) := Lib.hid (by rw [HPK.out, HPK.out, plK_same HY.out (fun h => by have h1 := h.1; simp [rwB, hk1, hk2] at h1)])
                  clear hk1 hk2
                  go_wp2_with fail
                  go_roundg (gk - 1)
                  case measure => omega
                  exact ⟨k + 1, by omega, rfl, (by rw [HPS.out]; exact HC5.out)⟩
            · rw [decide_eq_false hnx] at hen
              have HPS : Hid (PK (k + 1) = PK k) := Lib.hid (by rw [HPK.out, HPK.out, plK_same HY.out (fun h => hnx h.2)])
              clear hnx
              refine wp_region_class wX (by kernel_rfl) (by kernel_rfl) (Grows.refl _) ?_
              repeat (first
                | go_big_quiet_skip
                | (go_big_quiet_want; first
                    | ((with_reducible refine quiet_load (b := X) (off := 1) ?_ L1.out ?_); rfl; (simp only [Act.put, List.setIfInBounds_toArray, List.set_cons_zero, List.set_cons_succ]); go_big_quiet_on)
                    | ((with_reducible refine quiet_load (b := g) (off := off + i * 3) ?_ L2.out ?_); rfl; (simp only [Act.put, List.setIfInBounds_toArray, List.set_cons_zero, List.set_cons_succ]); go_big_quiet_on)
                    | (go_big_quiet_op; (first
                        | go_big_quiet_on
                        | (refine ⟨_, fun _ _ => rfl, ?_⟩; go_big_quiet_on)))))
              refine wpQuiet_nil ?_
              intro w5 hC5
              go_wp2_with fail
              go_roundg (gk - 1)
              case measure => omega
              exact ⟨k + 1, by omega, rfl, (by rw [HPS.out]; exact HCX.out.grows hC5)⟩
          · have hkn : k = n := by omega
            subst hkn
            have hc := HCK.out
            rw [HPE.out] at hc
            have HCE := Lib.hid hc
            clear hc hlk
            go_wp2_with fail
            go_roundg (gk0 - 1)
            case measure => omega
            exact ⟨i + 1, by omega, rfl, HCE.out⟩
      · have hid : (decL L).length ≤ i := by rw [HD.out]; omega
        have hc := HCI.out
        rw [plI_all hid] at hc
        have HGE := Lib.hid (HG2.out.trans hc.g)
        have ho := hc.out
        have e1 : (rdF L (plsD L) zz).map (kdR D) = (readsF L).map (kdF L) := by
          rw [← HD.out]
          exact List.map_congr_left (fun f _ => kdR_kdF HM.out f)
        rw [e1] at ho
        have HO := Lib.hid ho
        have HSW : Hid (w.heap.size ≤ S0 + 2) := Lib.hid (by have := HG2.out.size; have := HS0.out; omega)
        have h1 : ¬ (i : Int) < (D.length : Int) := by omega
        clear hid hc ho e1 hlt
        go_wp2_with fail
        go_ret2
        exact ⟨HGE.out, .inr ⟨HM.out, _, rfl, own_lower HO.out HSW.out⟩⟩
end Go.Proofs.Ytfigoeoimefngaa
