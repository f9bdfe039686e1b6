/-
  home.GetSuper.
-/
import Derived.Test.YtmcofmidpedkiaaHmD
namespace Go.Proofs.Ytmcofmidpedkiaa
open Go.RowKit Go.Maps

theorem bst_zero {z : Nat → Bool} {o : Nat → Option (List Int)} {k : Nat} (h : z k = true) : bst z o (k + 1) = bst z o k := by simp [bst, h]
theorem bst_none {z : Nat → Bool} {o : Nat → Option (List Int)} {k : Nat} (h : z k = false) (ho : o k = none) : bst z o (k + 1) = bst z o k := by simp [bst, h, ho]
theorem bst_new {z : Nat → Bool} {o : Nat → Option (List Int)} {k : Nat} {L : List Int} (h : z k = false) (ho : o k = some L) (hb : bst z o k = none) : bst z o (k + 1) = some L := by simp [bst, h, ho, hb]
theorem bst_more {z : Nat → Bool} {o : Nat → Option (List Int)} {k : Nat} {L M : List Int} (h : z k = false) (ho : o k = some L) (hb : bst z o k = some M) : bst z o (k + 1) = if M.getD 0 0 < L.getD 0 0 then some L else some M := by simp [bst, h, ho, hb]
theorem emptyN_succ (z : Nat → Bool) (k : Nat) : emptyN z (k + 1) = emptyN z k + if z k then 1 else 0 := rfl

section
variable {w : World} {B : Nat} {O : Nat → Prop} {g : Nat} {dur : List Nat} {C : Nat → List (List Nat)}
set_option maxRecDepth 100000 in
set_option maxHeartbeats 4000000 in
theorem gs_any (h : Dk w B O g dur C false) (hC : ∀ x, x < 34 → (C x).length ≤ 1000000) (o : Nat → Option (List Int))
    (hR : ∀ k, k < 2 → zerosB (rdS dur C k) = false → ∀ g1 c1 W, 64 ≤ c1 → Rd W (some ⟨g1, 0, none⟩) (bys (rdS dur C k)) → Calls Try.prog 30 #[.slice (some ⟨g1, 0, none⟩) 64 c1, .int .i64 (k : Int)] W (RdPost W (o k))) :
    Calls Try.prog 13 #[.pointer (some ⟨g, 0, none⟩)] w (GsPost w (fun k => zerosB (rdS dur C k)) o) := by
  have HD := Lib.hid h
  have HC := Lib.hid hC
  have HRd := Lib.hid hR
  have hz := zsup
  have A0 := (At.new w 39 #[.int .i64 0, .int .i64 0, .int .i64 0, .int .i64 0, .int .i64 0, .int .i64 0, .int .i64 0, .int .i64 0, .int .i64 0, .int .i64 0, .int .i64 0, .int .i64 0, .int .i64 0]).alloc (.cells #[.int .i64 0, .int .i64 0, .int .i64 0, .int .i64 0, .int .i64 0, .int .i64 0, .int .i64 0, .int .i64 0, .int .i64 0, .int .i64 0, .int .i64 0, .int .i64 0, .int .i64 0] 39)
  have B0 := At.new (w.alloc (.cells #[.int .i64 0, .int .i64 0, .int .i64 0, .int .i64 0, .int .i64 0, .int .i64 0, .int .i64 0, .int .i64 0, .int .i64 0, .int .i64 0, .int .i64 0, .int .i64 0, .int .i64 0] 39)) 39 #[.int .i64 0, .int .i64 0, .int .i64 0, .int .i64 0, .int .i64 0, .int .i64 0, .int .i64 0, .int .i64 0, .int .i64 0, .int .i64 0, .int .i64 0, .int .i64 0, .int .i64 0]
  rw [World.size_alloc] at B0
  have HA0 := Lib.hid A0
  have HB0 := Lib.hid B0
  clear h hC hR A0 B0
  unfold supv at *
  generalize hzz : (fun k => zerosB (rdS dur C k)) = z at *
  have HZ : Hid (∀ k, zerosB (rdS dur C k) = z k) := fun k => by rw [← hzz]
  clear hzz
  go_enter Try.func13, Try.ntmps13
  go_wp2_with fail
  clear hz
  go_loopg [6, 7, 16] 2 (fun gh s6 s7 ii wr => ∃ (k : Nat) (m0 m1 m2 m3 m4 o0 o1 o2 o3 o4 o5 o6 o7 : Int), k + gh = 2 ∧ ii = .int .i64 (k : Int) ∧ s6 = .bool (bst z o k).isSome ∧ s7 = .int .i64 ((emptyN z k : Nat) : Int) ∧ At wr (w.heap.size + 1) 39 #[.int .i64 m0, .int .i64 m1, .int .i64 m2, .int .i64 m3, .int .i64 m4, .int .i64 o0, .int .i64 o1, .int .i64 o2, .int .i64 o3, .int .i64 o4, .int .i64 o5, .int .i64 o6, .int .i64 o7] ∧ At wr w.heap.size 39 #[.int .i64 0, .int .i64 0, .int .i64 0, .int .i64 0, .int .i64 0, .int .i64 0, .int .i64 0, .int .i64 0, .int .i64 0, .int .i64 0, .int .i64 0, .int .i64 0, .int .i64 0] ∧ (∀ L, bst z o k = some L → [m0, m1, m2, m3, m4, o0, o1, o2, o3, o4, o5, o6, o7] = L) ∧ Grows w wr)
  case atStart => exact ⟨0, 0, 0, 0, 0, 0, 0, 0, 0, 0, 0, 0, 0, 0, by omega, rfl, rfl, rfl, HB0.out, HA0.out, (fun L h => by cases h), ((Grows.refl _).alloc _).alloc _⟩
  case round =>
    obtain ⟨k, m0, m1, m2, m3, m4, o0, o1, o2, o3, o4, o5, o6, o7, hk, rfl, rfl, rfl, hB, hA, hbm, hG⟩ := hrel
    have HB1 := Lib.hid hB
    have HA1 := Lib.hid hA
    have HBM := Lib.hid hbm
    have HG := Lib.hid hG
    clear hB hA hbm hG
    by_cases hlt : k < 2
    · have hlt' : (k : Int) < 2 := by omega
      have hk0 : (0 : Int) ≤ (k : Int) := by omega
      have hem := emptyN_le z k
      have HRE := Lib.hid (read_ok (HD.out.grows HG.out) k (by omega) (HC.out k (by omega)))
      have HRk := Lib.hid (HRd.out k hlt)
      have hzk := HZ.out k
      have HES := Lib.hid (emptyN_succ z k)
      generalize rdS dur C k = l at *
      generalize hbk0 : bst z o k = bk at *
      have hbk := Lib.hid hbk0
      clear hbk0
      generalize emptyN z k = em at *
      go_wp2_with fail
      refine HRE.out.mono ?_
      rintro e w1 ⟨v1, rfl, hN, hl⟩
      obtain ⟨g1, c1, rfl, _, _⟩ := own_form hN.1 (by omega)
      have hc1 := (own_cap hN.1).1
      have HR1 := Lib.hid hN.rd
      have HG1 := Lib.hid hN.2
      clear hN
      have HZr := Lib.hid (zeros_any l 64 hl _ c1 w1 HR1.out (by omega))
      cases hzl : zerosB l with
      | true =>
        rw [hzl] at HZr hzk
        have HBS : Hid (bst z o (k + 1) = bk) := by show _ = _; rw [bst_zero hzk.symm, hbk.out]
        have HEM : Hid (emptyN z (k + 1) = em + 1) := by show _ = _; rw [HES.out, ← hzk]; rfl
        clear hzl hzk hl HRk hbk
        go_wp2_with (first | (go_at_call 26; refine HZr.out.mono ?_; rintro e w' ⟨rfl, rfl⟩))
        go_wp2_with fail
        go_roundg (gk - 1)
        case measure => omega
        case rel => exact ⟨k + 1, m0, m1, m2, m3, m4, o0, o1, o2, o3, o4, o5, o6, o7, by omega, by go_num, by rw [HBS.out]; try rfl, by rw [HEM.out]; try go_num, HB1.out.grows HG1.out, HA1.out.grows HG1.out, fun L hL => HBM.out L (by rw [← HBS.out]; exact hL), HG.out.trans HG1.out⟩
      | false =>
        rw [hzl] at HZr hzk
        have HZK : Hid (z k = false) := hzk.symm
        have HEM : Hid (emptyN z (k + 1) = em) := by show _ = _; rw [HES.out, HZK.out]; rfl
        have HRR := Lib.hid (HRk.out hzl g1 c1 w1 hc1 HR1.out)
        clear hzl hl HRk hzk
        go_wp2_with (first | (go_at_call 26; refine HZr.out.mono ?_; rintro e w' ⟨rfl, rfl⟩))
        refine HRR.out.mono ?_
        rintro e w2 ⟨n, t, u, i, b, x0, x1, x2, x3, x4, x5, x6, x7, ok, rfl, hG2, hok, hL⟩
        have HG2 := Lib.hid (HG1.out.trans hG2)
        clear hG2
        have HS2 := Lib.hid (At.new w2 39 #[.int .i64 n, .int .i64 t, .int .i64 u, .int .i64 i, .int .i64 b, .int .i64 x0, .int .i64 x1, .int .i64 x2, .int .i64 x3, .int .i64 x4, .int .i64 x5, .int .i64 x6, .int .i64 x7])
        have HB2 := Lib.hid ((HB1.out.grows HG2.out).alloc (.cells #[.int .i64 n, .int .i64 t, .int .i64 u, .int .i64 i, .int .i64 b, .int .i64 x0, .int .i64 x1, .int .i64 x2, .int .i64 x3, .int .i64 x4, .int .i64 x5, .int .i64 x6, .int .i64 x7] 39))
        have HA2 := Lib.hid ((HA1.out.grows HG2.out).alloc (.cells #[.int .i64 n, .int .i64 t, .int .i64 u, .int .i64 i, .int .i64 b, .int .i64 x0, .int .i64 x1, .int .i64 x2, .int .i64 x3, .int .i64 x4, .int .i64 x5, .int .i64 x6, .int .i64 x7] 39))
        have HG3 := Lib.hid ((HG.out.trans HG2.out).alloc (.cells #[.int .i64 n, .int .i64 t, .int .i64 u, .int .i64 i, .int .i64 b, .int .i64 x0, .int .i64 x1, .int .i64 x2, .int .i64 x3, .int .i64 x4, .int .i64 x5, .int .i64 x6, .int .i64 x7] 39))
        have cs := HS2.out.cell
        have cb := HB2.out.cell
        unfold supv
        cases ho : o k with
        | none =>
          rw [ho] at hok
          have hok' : ok = false := hok
          subst hok'
          have HBS : Hid (bst z o (k + 1) = bk) := by show _ = _; rw [bst_none HZK.out ho, hbk.out]
          clear hok hL ho hbk
          go_wp2_with fail
          go_roundg (gk - 1)
          case measure => omega
          case rel => exact ⟨k + 1, m0, m1, m2, m3, m4, o0, o1, o2, o3, o4, o5, o6, o7, by omega, by go_num, by rw [HBS.out]; try rfl, by rw [HEM.out]; try go_num, HB2.out, HA2.out, fun L hL => HBM.out L (by rw [← HBS.out]; exact hL), HG3.out⟩
        | some L =>
          rw [ho] at hok
          have hok' : ok = true := hok
          subst hok'
          have eL := hL L ho
          clear hok hL
          cases bk with
          | none =>
            have HBS : Hid (bst z o (k + 1) = some [n, t, u, i, b, x0, x1, x2, x3, x4, x5, x6, x7]) := by show _ = _; rw [bst_new HZK.out ho hbk.out, eL]
            clear ho hbk eL
            go_wp2_with (first | (with_reducible refine wpList_store_mid (op := ⟨none, .store 39 (.tmp 5) (.tmp 50), _, _, _, none⟩) rfl 39 (.tmp 5) (.tmp 50) rfl (w.heap.size + 1) 0 #[.int .i64 n, .int .i64 t, .int .i64 u, .int .i64 i, .int .i64 b, .int .i64 x0, .int .i64 x1, .int .i64 x2, .int .i64 x3, .int .i64 x4, .int .i64 x5, .int .i64 x6, .int .i64 x7] rfl rfl ?taa ?tab ?tac ?_))
            case taa => exact HB2.out.there 0 13 (by simp)
            case tab => kernel_rfl
            case tac => exact one13 _ _ _ _ _ _ _ _ _ _ _ _ _
            go_roundg (gk - 1)
            case measure => omega
            case rel => exact ⟨k + 1, n, t, u, i, b, x0, x1, x2, x3, x4, x5, x6, x7, by omega, by go_num, by rw [HBS.out]; try rfl, by rw [HEM.out]; try go_num, At.all (vs := ints [n, t, u, i, b, x0, x1, x2, x3, x4, x5, x6, x7]) (cs := ints [m0, m1, m2, m3, m4, o0, o1, o2, o3, o4, o5, o6, o7]) HB2.out rfl, HA2.out.keep (by omega) _ _, fun L hL => by rw [HBS.out] at hL; injection hL, Grows.setCells (by omega) _ _ HG3.out⟩
          | some M =>
            have eM := HBM.out M rfl
            have hbs := bst_more HZK.out ho hbk.out
            rw [← eM, ← eL] at hbs
            have hbs' : bst z o (k + 1) = if m0 < n then some [n, t, u, i, b, x0, x1, x2, x3, x4, x5, x6, x7] else some [m0, m1, m2, m3, m4, o0, o1, o2, o3, o4, o5, o6, o7] := hbs
            clear hbs ho hbk eL
            by_cases hlt2 : m0 < n
            · rw [if_pos hlt2] at hbs'
              have HBS := Lib.hid hbs'
              clear hbs' eM
              have HGR : Hid (∀ W, Calls Try.prog 29 #[.agg #[.int .i64 n, .int .i64 t, .int .i64 u, .int .i64 i, .int .i64 b, .int .i64 x0, .int .i64 x1, .int .i64 x2, .int .i64 x3, .int .i64 x4, .int .i64 x5, .int .i64 x6, .int .i64 x7], .agg #[.int .i64 m0, .int .i64 m1, .int .i64 m2, .int .i64 m3, .int .i64 m4, .int .i64 o0, .int .i64 o1, .int .i64 o2, .int .i64 o3, .int .i64 o4, .int .i64 o5, .int .i64 o6, .int .i64 o7]] W fun e w' => e = .returned (.bool true) ∧ Grows W w') := fun W => by
                have := greater_any n t u i b x0 x1 x2 x3 x4 x5 x6 x7 m0 m1 m2 m3 m4 o0 o1 o2 o3 o4 o5 o6 o7 W
                rw [decide_eq_true hlt2] at this
                exact this
              clear hlt2
              go_wp2_with fail
              refine (HGR.out _).mono ?_
              rintro e w4 ⟨rfl, hG4⟩
              have cs4 := (HS2.out.grows hG4).cell
              have HB4 := Lib.hid (HB2.out.grows hG4)
              have HA4 := Lib.hid (HA2.out.grows hG4)
              have HG4 := Lib.hid (HG3.out.trans hG4)
              clear cs cb hG4
              go_wp2_with (first | (with_reducible refine wpList_store_mid (op := ⟨none, .store 39 (.tmp 5) (.tmp 50), _, _, _, none⟩) rfl 39 (.tmp 5) (.tmp 50) rfl (w.heap.size + 1) 0 #[.int .i64 n, .int .i64 t, .int .i64 u, .int .i64 i, .int .i64 b, .int .i64 x0, .int .i64 x1, .int .i64 x2, .int .i64 x3, .int .i64 x4, .int .i64 x5, .int .i64 x6, .int .i64 x7] rfl rfl ?tba ?tbb ?tbc ?_))
              case tba => exact HB4.out.there 0 13 (by simp)
              case tbb => kernel_rfl
              case tbc => exact one13 _ _ _ _ _ _ _ _ _ _ _ _ _
              go_roundg (gk - 1)
              case measure => omega
              case rel => exact ⟨k + 1, n, t, u, i, b, x0, x1, x2, x3, x4, x5, x6, x7, by omega, by go_num, by rw [HBS.out]; try rfl, by rw [HEM.out]; try go_num, At.all (vs := ints [n, t, u, i, b, x0, x1, x2, x3, x4, x5, x6, x7]) (cs := ints [m0, m1, m2, m3, m4, o0, o1, o2, o3, o4, o5, o6, o7]) HB4.out rfl, HA4.out.keep (by omega) _ _, fun L hL => by rw [HBS.out] at hL; injection hL, Grows.setCells (by omega) _ _ HG4.out⟩
            · rw [if_neg hlt2] at hbs'
              rw [eM] at hbs'
              have HBS := Lib.hid hbs'
              clear hbs' eM
              have HGR : Hid (∀ W, Calls Try.prog 29 #[.agg #[.int .i64 n, .int .i64 t, .int .i64 u, .int .i64 i, .int .i64 b, .int .i64 x0, .int .i64 x1, .int .i64 x2, .int .i64 x3, .int .i64 x4, .int .i64 x5, .int .i64 x6, .int .i64 x7], .agg #[.int .i64 m0, .int .i64 m1, .int .i64 m2, .int .i64 m3, .int .i64 m4, .int .i64 o0, .int .i64 o1, .int .i64 o2, .int .i64 o3, .int .i64 o4, .int .i64 o5, .int .i64 o6, .int .i64 o7]] W fun e w' => e = .returned (.bool false) ∧ Grows W w') := fun W => by
                have := greater_any n t u i b x0 x1 x2 x3 x4 x5 x6 x7 m0 m1 m2 m3 m4 o0 o1 o2 o3 o4 o5 o6 o7 W
                rw [decide_eq_false hlt2] at this
                exact this
              clear hlt2
              go_wp2_with fail
              refine (HGR.out _).mono ?_
              rintro e w4 ⟨rfl, hG4⟩
              have HB4 := Lib.hid (HB2.out.grows hG4)
              have HA4 := Lib.hid (HA2.out.grows hG4)
              have HG4 := Lib.hid (HG3.out.trans hG4)
              clear cs cb hG4
              go_wp2_with fail
              go_roundg (gk - 1)
              case measure => omega
              case rel => exact ⟨k + 1, m0, m1, m2, m3, m4, o0, o1, o2, o3, o4, o5, o6, o7, by omega, by go_num, by rw [HBS.out]; try rfl, by rw [HEM.out]; try go_num, HB4.out, HA4.out, fun L hL => HBM.out L (by rw [← HBS.out]; exact hL), HG4.out⟩
    · obtain rfl : k = 2 := by omega
      have hz := zsup
      unfold supv at hz
      cases hb2 : bst z o 2 with
      | some L =>
        have eL := HBM.out L hb2
        have HB2 := Lib.hid hb2
        have HEL := Lib.hid eL
        have cb := HB1.out.cell
        clear hb2 eL hz
        go_wp2_with (with_reducible refine wpList_store_mid (op := ⟨none, .store 39 (.tmp 2) (.tmp 53), _, _, _, none⟩) rfl 39 (.tmp 2) (.tmp 53) rfl (w.heap.size) (0) #[.int .i64 m0, .int .i64 m1, .int .i64 m2, .int .i64 m3, .int .i64 m4, .int .i64 o0, .int .i64 o1, .int .i64 o2, .int .i64 o3, .int .i64 o4, .int .i64 o5, .int .i64 o6, .int .i64 o7] ?s1a ?s1b ?s1c ?s1d ?s1e ?_)
        case s1a => rfl
        case s1b => rfl
        case s1c => exact HA1.out.there 0 13 (by simp)
        case s1d => kernel_rfl
        case s1e => exact one13 _ _ _ _ _ _ _ _ _ _ _ _ _
        exact bodyPost_ret (results_row_tmp Try.results13 _ _ w.heap.size 39 _ _ rfl (At.all (vs := ints [m0, m1, m2, m3, m4, o0, o1, o2, o3, o4, o5, o6, o7]) (cs := ints [0, 0, 0, 0, 0, 0, 0, 0, 0, 0, 0, 0, 0]) HA1.out rfl) Try.underlying39 rfl (by kernel_rfl)) rfl ⟨m0, m1, m2, m3, m4, o0, o1, o2, o3, o4, o5, o6, o7, 0, rfl, Grows.setCells (Nat.le_refl _) _ _ HG.out, .inl ⟨L, HB2.out, rfl, HEL.out⟩⟩
      | none =>
        have HB2 := Lib.hid hb2
        have hle := emptyN_le z 2
        clear hb2
        by_cases he : emptyN z 2 = 2
        · have he' : (((emptyN z 2 : Nat) : Int) == 2) = true := by simp; omega
          have HE := Lib.hid he
          clear he hz
          generalize hem : emptyN z 2 = em at *
          have HEM2 := Lib.hid hem
          clear hem
          go_wp2_with fail
          refine (first_any _).mono ?_
          rintro e w2 ⟨rfl, hG2⟩
          unfold supv
          have HA2 := Lib.hid (HA1.out.grows hG2)
          have HG2 := Lib.hid (HG.out.trans hG2)
          clear hG2
          go_wp2_with (with_reducible refine wpList_store_mid (op := ⟨none, .store 39 (.tmp 2) (.tmp 56), _, _, _, none⟩) rfl 39 (.tmp 2) (.tmp 56) rfl (w.heap.size) (0) #[.int .i64 0, .int .i64 1, .int .i64 0, .int .i64 0, .int .i64 1, .int .i64 0, .int .i64 0, .int .i64 0, .int .i64 0, .int .i64 0, .int .i64 0, .int .i64 0, .int .i64 0] ?s2a ?s2b ?s2c ?s2d ?s2e ?_)
          case s2a => rfl
          case s2b => rfl
          case s2c => exact HA2.out.there 0 13 (by simp)
          case s2d => kernel_rfl
          case s2e => exact one13 _ _ _ _ _ _ _ _ _ _ _ _ _
          exact bodyPost_ret (results_row_tmp Try.results13 _ _ w.heap.size 39 _ _ rfl (At.all (vs := ints [0, 1, 0, 0, 1, 0, 0, 0, 0, 0, 0, 0, 0]) (cs := ints [0, 0, 0, 0, 0, 0, 0, 0, 0, 0, 0, 0, 0]) HA2.out rfl) Try.underlying39 rfl (by kernel_rfl)) rfl ⟨0, 1, 0, 0, 1, 0, 0, 0, 0, 0, 0, 0, 0, 0, rfl, Grows.setCells (Nat.le_refl _) _ _ HG2.out, .inr (.inl ⟨HB2.out, HEM2.out.trans HE.out, rfl, rfl⟩)⟩
        · have he' : (((emptyN z 2 : Nat) : Int) == 2) = false := by simp; omega
          have HE := Lib.hid he
          clear he
          generalize hem : emptyN z 2 = em at *
          have HEM2 := Lib.hid hem
          clear hem
          go_wp2_with (with_reducible refine wpList_store_mid (op := ⟨none, .store 39 (.tmp 2) (.tmp 57), _, _, _, none⟩) rfl 39 (.tmp 2) (.tmp 57) rfl (w.heap.size) (0) #[.int .i64 0, .int .i64 0, .int .i64 0, .int .i64 0, .int .i64 0, .int .i64 0, .int .i64 0, .int .i64 0, .int .i64 0, .int .i64 0, .int .i64 0, .int .i64 0, .int .i64 0] ?s3a ?s3b ?s3c ?s3d ?s3e ?_)
          case s3a => rfl
          case s3b => rfl
          case s3c => exact HA1.out.there 0 13 (by simp)
          case s3d => kernel_rfl
          case s3e => exact one13 _ _ _ _ _ _ _ _ _ _ _ _ _
          exact bodyPost_ret (results_row_tmp Try.results13 _ _ w.heap.size 39 _ _ rfl (At.all (vs := ints [0, 0, 0, 0, 0, 0, 0, 0, 0, 0, 0, 0, 0]) (cs := ints [0, 0, 0, 0, 0, 0, 0, 0, 0, 0, 0, 0, 0]) HA1.out rfl) Try.underlying39 rfl (by kernel_rfl)) rfl ⟨0, 0, 0, 0, 0, 0, 0, 0, 0, 0, 0, 0, 0, 40, rfl, Grows.setCells (Nat.le_refl _) _ _ HG.out, .inr (.inr ⟨HB2.out, fun h => HE.out (HEM2.out.symm.trans h), rfl⟩)⟩
end
end Go.Proofs.Ytmcofmidpedkiaa
