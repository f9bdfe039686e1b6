/-
  cashboxref27.Replay.
-/
import Derived.Test.YtfigoeoimefngaaWjD
import Derived.Test.YtfigoeoimefngaaWjE
import Derived.Test.YtfigoeoimefngaaWiG
import Derived.RegionTactic
namespace Go.Proofs.Ytfigoeoimefngaa
open Go.RowKit Go.Maps Go.Shelf

theorem zst32 (W : World) : (zeroValue 46).run Try.prog W = .ok (.agg (ivs zer256).toArray) W := by kernel_rfl
theorem ivs_all (l : List Int) : (ivs l).toArray.all (·.oneCell') = true := by
  rw [Array.all_eq_true_iff_forall_mem]
  intro v hv
  exact one_ints .u8 l v (List.mem_toArray.1 hv)
theorem info_st32 : (Try.prog.info? 46).map (·.size) = some 256 := by kernel_rfl
theorem ld_blk32 {w : World} {g : Nat} {s : List Int} (h : At w g 46 (ivs s).toArray) (b : Nat) (hb : b * 8 + 8 ≤ s.length) : ∀ W, Grows w W → (loadVar 31 ⟨g, b * 8, none⟩).run Try.prog W = .ok (.agg (ivs (blk s b)).toArray) W := by
  have := ld_mid (P := Try.prog) (o := b * 8) (n := 8) h Try.underlying31 rfl (by rw [ivs_len]; exact hb) (by kernel_rfl)
  rwa [show ((ivs s).drop (b * 8)).take 8 = ivs (blk s b) by unfold ivs blk; rw [List.map_take, List.map_drop]] at this
theorem cells3n {w : World} {a : Option Addr} {l : List Nm} (h : Rd w a (rowsOf Nm.cs l)) {k : Nat} (hk : k < l.length) :
    ∃ g off, a = some ⟨g, off, none⟩ ∧ g < w.heap.size ∧ w.cell? ⟨g, off + k * 3, none⟩ = some (.int .i64 l[k].s) ∧ w.cell? ⟨g, off + k * 3 + 1, none⟩ = some (.int .i64 l[k].i) ∧ w.cell? ⟨g, off + k * 3 + 2, none⟩ = some (.int .i64 l[k].t) := by
  have hlt : k * 3 + 2 < (rowsOf Nm.cs l).length := rows_lt Nm.cs_len l k 2 hk (by omega)
  obtain ⟨g, off, rfl, hg, hc⟩ := h.at (by omega)
  have key : ∀ j v, j < 3 → (Nm.cs l[k])[j]? = some v → w.cell? ⟨g, off + k * 3 + j, none⟩ = some v := fun j v hj hv => by
    have h1 := hc (k * 3 + j) (by omega)
    have h2 := rows_get (f := Nm.cs) Nm.cs_len l k j hk hj
    rw [hv, List.getElem?_eq_getElem (by omega)] at h2
    injection h2 with h2
    rw [Nat.add_assoc, h1, h2]
  exact ⟨g, off, rfl, hg, key 0 _ (by omega) rfl, key 1 _ (by omega) rfl, key 2 _ (by omega) rfl⟩
theorem At.raw {w : World} {g : Nat} {t : TypeId} {cs : Array Value} (h : At w g t cs) : w.heap[g]? = some (.cells cs t (0, 0)) := h
theorem at_some6 {W : World} {g : Nat} {t : TypeId} {l : List Value} (h : At W g t l.toArray) {i : Nat} (hi : i < l.length) : ∃ v, W.cell? ⟨g, i, none⟩ = some v := ⟨l[i], by rw [h.cell]; simp [hi]⟩
def Rep27 (L : List Sn) (w : World) (e : Ending) (w' : World) : Prop :=
  Grows w w' ∧ ((mayB L = false ∧ e = .returned (.tuple #[.agg (ivs zer256).toArray, .bool false, .int .i64 2])) ∨ (mayB L = true ∧ e = .returned (.tuple #[.agg (ivs (blkF L)).toArray, .bool (serF L), .int .i64 0])))
set_option maxRecDepth 100000 in
set_option maxHeartbeats 40000000 in
theorem replay27_any (L : List Sn) (n : Nat) (hn : L.length = n) (hL : n ≤ 1000) (a : Option Addr) (cap : Nat) (w : World) (hr : Rd w a (rowsOf Sn.cs L)) :
    Calls Try.prog 16 #[.slice a n cap] w (Rep27 L w) := by
  obtain ⟨Z, hZ⟩ : ∃ Z, ivs zer256 = Z := ⟨_, rfl⟩
  have hz := zst32
  rw [hZ] at hz
  have HZ := Lib.hid hZ
  have HZL : Hid (Z.length = 256) := Lib.hid (by rw [← hZ, ivs_len]; exact zer256_len)
  have HZI : Hid ((Try.prog.info? 46).map (·.size) = some Z.toArray.size) := Lib.hid (by rw [List.size_toArray, HZL.out]; exact info_st32)
  have HZA : Hid (Z.toArray.all (·.oneCell') = true) := Lib.hid (by rw [← hZ]; exact ivs_all zer256)
  have HS0 : Hid (ivs (stF L (plI L 0) zz).1 = Z) := Lib.hid hZ
  clear hZ
  have HR := Lib.hid hr
  have HN := Lib.hid hn
  have HNL := Lib.hid hL
  have HOA := Lib.hid (fun W (h : Rd W a (rowsOf Sn.cs L)) => order27_any L n hn (by omega) a cap W h)
  clear hr hn hL
  go_enter Try.func16, Try.ntmps16
  go_wp2_with fail
  have hA0 : At ((w.alloc (.cells Z.toArray 46)).alloc (.cells Z.toArray 46)) w.heap.size 46 Z.toArray := (At.new w _ _).alloc _
  have hA1 := At.new (w.alloc (.cells Z.toArray 46)) 46 Z.toArray
  rw [World.size_alloc] at hA1
  have hg0 : Grows w ((w.alloc (.cells Z.toArray 46)).alloc (.cells Z.toArray 46)) := ((Grows.refl w).alloc _).alloc _
  have hs0 : ((w.alloc (.cells Z.toArray 46)).alloc (.cells Z.toArray 46)).heap.size = w.heap.size + 2 := by rw [World.size_alloc, World.size_alloc]
  generalize (w.alloc (.cells Z.toArray 46)).alloc (.cells Z.toArray 46) = w0 at *
  refine (HOA.out _ (HR.out.grows hg0)).mono ?_
  rintro e w2 ⟨hg2, hE⟩
  have HG2 := Lib.hid (hg0.trans hg2)
  have HR2 := Lib.hid (hA0.grows hg2)
  have HS2 := Lib.hid (hA1.grows hg2)
  rcases hE with ⟨hm, rfl⟩ | ⟨hm, v, rfl, ho⟩
  · have HM := Lib.hid hm
    clear hm hg2 hA0 hA1 hg0 hs0 HOA hz
    have HT2 : Hid (w2.there w.heap.size 0 Z.toArray.size) := Lib.hid (HR2.out.there 0 _ (Nat.le_of_eq (Nat.zero_add _)))
    go_wp2_with (first | (with_reducible refine wpList_load_row (o := ⟨some 19, .load 46 (.tmp 5), _, _, _, none⟩) rfl 46 (.tmp 5) rfl (w.heap.size + 1) ?a191 46 Z.toArray (0, 0) (.array 32 31) HS2.out.raw Try.underlying46 rfl HZI.out ?_) | (with_reducible refine wpList_store_mid (op := ⟨none, .store 46 (.tmp 2) (.tmp 19), _, _, _, none⟩) rfl 46 (.tmp 2) (.tmp 19) rfl w.heap.size 0 Z.toArray ?b191 ?b192 HT2.out HZI.out HZA.out ?_))
    all_goals try rfl
    have HAF := At.all (vs := Z) (cs := Z) HR2.out rfl
    refine bodyPost_ret (results_row_tmp2 Try.results16 _ _ w.heap.size 46 Z.toArray _ rfl HAF Try.underlying46 rfl HZI.out) rfl ⟨Grows.setCells (Nat.le_refl _) _ _ HG2.out, .inl ⟨HM.out, by rw [HZ.out]; rfl⟩⟩
  · have HM := Lib.hid hm
    have HO := Lib.hid ho
    obtain ⟨aD, cD, rfl, _, _, _⟩ := own_slice ho
    have HRD := Lib.hid (Rd.own ho)
    have HBD : Hid (∀ b off, aD = some ⟨b, off, none⟩ → w.heap.size + 1 < b) := Lib.hid (fun b off e => by
      have := (HO.out.lt b (by rw [e]; rfl)).1
      omega)
    have HSZ2 : Hid (w.heap.size + 2 ≤ w2.heap.size) := Lib.hid (by have := hg2.size; omega)
    have HDL : Hid ((decL L).length ≤ n) := Lib.hid (by have := decL_len L; have := HN.out; omega)
    clear hm hg2 hA0 hA1 hg0 hs0 HOA ho HO
    obtain ⟨D, hD⟩ : ∃ D, decL L = D := ⟨_, rfl⟩
    have HD := Lib.hid hD
    rw [hD] at HRD HDL ⊢
    clear hD
    go_wp2_with fail
    go_loopg [8, 9] D.length (fun gk v8 v9 wr => ∃ i : Nat, gk + i = D.length ∧ v9 = .int .i64 (i : Int) ∧ v8 = .bool ((rdF L (plI L i) zz).all okF) ∧ At wr (w.heap.size + 1) 46 (ivs (stF L (plI L i) zz).1).toArray ∧ Turns (fun j => j = w.heap.size + 1) w2 wr (fun j => j = w.heap.size + 1))
    case atStart => exact ⟨0, by omega, rfl, rfl, by rw [HS0.out]; exact HS2.out, Turns.refl _ _⟩
    case round =>
      obtain ⟨i, hi, rfl, rfl, hS, hT⟩ := hrel
      have HS := Lib.hid hS
      have HT := Lib.hid hT
      clear hS hT
      by_cases hlt : i < D.length
      · obtain ⟨g, off, hag, hgD, d0, d1, d2⟩ := cells3n (HT.out.rd HRD.out (fun b off e h => by have := HBD.out b off e; omega)) hlt
        subst hag
        have HDX : Hid ((decL L)[i]? = some D[i]) := Lib.hid (by rw [HD.out]; exact List.getElem?_eq_getElem hlt)
        have HPN := Lib.hid (plI_more HDX.out)
        generalize D[i] = x at *
        have HIS : Hid ((Try.prog.info? 46).map (·.size) = some (ivs (stF L (plI L i) zz).1).toArray.size) := Lib.hid (by rw [List.size_toArray, ivs_len, (szF_names HM.out i).bl]; exact info_st32)
        have hlt' : (i : Int) < (D.length : Int) := by omega
        have hi0 : (0 : Int) ≤ (i : Int) := by omega
        have hwri : IntKind.i64.wrap ((i : Int) + 1) = (i : Int) + 1 := IntWalk.i64_in _ (by have := HNL.out; have := HDL.out; omega)
        have HSL := Lib.hid (szF_names HM.out i).bl
        obtain ⟨S, hS⟩ : ∃ S, (stF L (plI L i) zz).1 = S := ⟨_, rfl⟩
        have HSS := Lib.hid hS
        rw [hS] at HS HIS HSL
        clear hS
        obtain ⟨wx, hwx⟩ : ∃ wx, (wr.alloc (.cells Z.toArray 46)).setCells wr.heap.size 0 (ivs S).toArray.toList = wx := ⟨_, rfl⟩
        have HTO : Hid ((wr.alloc (.cells Z.toArray 46)).there wr.heap.size 0 (ivs S).toArray.size) := Lib.hid ((At.new wr _ _).there 0 _ (by rw [List.size_toArray, List.size_toArray, HZL.out, ivs_len, HSL.out]; exact Nat.le_refl _))
        have HXO : Hid (At wx wr.heap.size 46 (ivs S).toArray) := Lib.hid (by rw [← hwx]; exact At.all (cs := Z) (At.new wr _ _) (by rw [List.toList_toArray, ivs_len, HSL.out, HZL.out]))
        have HGX : Hid (Grows wr wx) := Lib.hid (by rw [← hwx]; exact Grows.setCells (Nat.le_refl _) _ _ ((Grows.refl wr).alloc _))
        go_wp2_with (first | (with_reducible refine wpList_load_row (o := ⟨some 27, .load 46 (.tmp 5), _, _, _, none⟩) rfl 46 (.tmp 5) rfl (w.heap.size + 1) ?a271 46 (ivs S).toArray (0, 0) (.array 32 31) HS.out.raw Try.underlying46 rfl HIS.out ?_) | (with_reducible refine wpList_store_mid (op := ⟨none, .store 46 (.tmp 10) (.tmp 27), _, _, _, none⟩) rfl 46 (.tmp 10) (.tmp 27) rfl wr.heap.size 0 (ivs S).toArray ?b271 ?b272 HTO.out HIS.out (ivs_all S) ?_))
        all_goals try rfl
        clear hwx HTO
        have HGW := Lib.hid ((HT.out.low HG2.out (fun j hj => by omega)).trans HGX.out)
        generalize gk = gk0 at *
        generalize wr = wo at *
        obtain ⟨gO, hgO⟩ : ∃ gO, wo.heap.size = gO := ⟨_, rfl⟩
        have HGO := Lib.hid hgO
        have HWS : Hid (w.heap.size ≤ gO) := Lib.hid (by have := (HT.out.low HG2.out (fun j hj => by omega)).size; omega)
        rw [hgO] at HXO ⊢
        clear hgO
        obtain ⟨PK, hPK⟩ : ∃ PK : Nat → List Nat, ∀ k, PK k = plI L i ++ plK L k x := ⟨_, fun _ => rfl⟩
        have HPK := Lib.hid hPK
        have HP0 : Hid (PK 0 = plI L i) := Lib.hid (by rw [hPK, plK_zero, List.append_nil])
        have HPE : Hid (PK n = plI L (i + 1)) := Lib.hid (by rw [hPK, HPN.out, plK_all _ (by rw [HN.out]; exact Nat.le_refl _)])
        have HPZ : Hid (∀ k, SzF (stF L (PK k) zz)) := Lib.hid (fun k => by rw [hPK]; exact szF_places HM.out i k x)
        have hb0 : (rdF L (plI L i) zz).all okF = (rdF L (PK 0) zz).all okF := by rw [HP0.out]
        rw [hb0]
        have HB0 : Hid ((stF L (PK 0) zz).1 = S) := Lib.hid (by rw [HP0.out]; exact HSS.out)
        clear hPK hb0
        go_loopg [8, 11] n (fun gh v8 v11 wr => ∃ k : Nat, gh + k = n ∧ v11 = .int .i64 (k : Int) ∧ v8 = .bool ((rdF L (PK k) zz).all okF) ∧ At wr gO 46 (ivs (stF L (PK k) zz).1).toArray ∧ Turns (fun j => j = gO) wx wr (fun j => j = gO))
        case atStart => exact ⟨0, by omega, rfl, rfl, by rw [HB0.out]; exact HXO.out, Turns.refl _ _⟩
        case round =>
          obtain ⟨k, hk, rfl, rfl, hA, hU⟩ := hrel
          have HA := Lib.hid hA
          have HU := Lib.hid hU
          clear hA hU HXO
          generalize wr = wi at *
          have HGI : Hid (Grows w wi) := Lib.hid (HU.out.low HGW.out (fun j hj => by have := HWS.out; omega))
          have HGA : Hid (Grows wo wi) := Lib.hid (HU.out.low HGX.out (fun j hj => by have := HGO.out; omega))
          by_cases hlk : k < n
          · have hkl : k < L.length := by rw [HN.out]; exact hlk
            obtain ⟨gL, oL, rfl, hgL, hc⟩ := cells14 (HR.out.grows HGI.out) hkl
            have HY : Hid (L[k]? = some L[k]) := Lib.hid (List.getElem?_eq_getElem hkl)
            generalize L[k] = y at *
            have HC : Hid (∀ j v, (y.cs)[j]? = some v → wi.cell? ⟨gL, oL + k * 14 + j, none⟩ = some v) := Lib.hid hc
            obtain ⟨c0, c1, c2, c3, c4, c5, c6, c7, c8, c9, c10, c11, c12, c13⟩ := cells14_at hc
            have e0 := (HGA.out.cell _ _ hgD).trans d0
            have e1 := (HGA.out.cell _ _ hgD).trans d1
            have e2 := (HGA.out.cell _ _ hgD).trans d2
            have hk0 : (0 : Int) ≤ (k : Int) := by omega
            have hlk' : (k : Int) < (n : Int) := by omega
            have hwrk : IntKind.i64.wrap ((k : Int) + 1) = (k : Int) + 1 := IntWalk.i64_in _ (by have := HNL.out; omega)
            have hen : ∀ W, (Op.equalIn 10000 29 (.agg #[.int .i64 y.n.s, .int .i64 y.n.i, .int .i64 y.n.t]) (.agg #[.int .i64 x.s, .int .i64 x.i, .int .i64 x.t])).run Try.prog W = .ok (decide (y.n = x)) W := fun W => eqn_any W y.n x
            clear hc hkl
            by_cases hnx : y.n = x
            · rw [decide_eq_true hnx] at hen
              have HNX := Lib.hid hnx
              go_wp2_with fail
              go_quiet (fail)
              have hg5 : Grows wi (wi.drewN nq) := (Grows.refl _).drewN _
              have HC5 : Hid (∀ j v, (y.cs)[j]? = some v → (wi.drewN nq).cell? ⟨gL, oL + k * 14 + j, none⟩ = some v) := Lib.hid (fun j v hv => (hg5.cell _ _ hgL).trans (HC.out j v hv))
              have HL5 : Hid (gL < (wi.drewN nq).heap.size) := Lib.hid (Nat.lt_of_lt_of_le hgL hg5.size)
              have HA5 := Lib.hid (HA.out.grows hg5)
              have HU5 := Lib.hid (HU.out.grows hg5)
              clear hg5 HC HA HU HGI HGA e0 e1 e2 c0 c1 c2 c3 c4 c5 c6 c7 c8 c9 c10 c11 c12 c13 hgL hen hnx
              generalize wi.drewN nq = w5 at *
              obtain ⟨c0, c1, c2, c3, c4, c5, c6, c7, c8, c9, c10, c11, c12, c13⟩ := cells14_at HC5.out
              by_cases hk1 : y.k = 1
              · have b1 : (y.k == (1 : Int)) = true := by simp [hk1]
                have b2 : (y.k == (2 : Int)) = false := by simp [hk1]
                have hr : rwB y = true := by simp [rwB, hk1]
                have hbb := rw_block HM.out HY.out hr
                obtain ⟨q, hq⟩ : ∃ q : Nat, y.b = (q : Int) := ⟨y.b.toNat, by omega⟩
                have hq32 : q < 32 := by omega
                have HPS : Hid (PK (k + 1) = PK k ++ [k]) := Lib.hid (by rw [HPK.out, HPK.out, plK_more HY.out hr HNX.out, List.append_assoc])
                obtain ⟨hst, hrd⟩ := st_read (PK k) HY.out hk1
                have HST := Lib.hid hst
                have HRDF := Lib.hid hrd
                have HOKF : Hid (okF (mkF L k y (stF L (PK k) zz)) = decide (blk (stF L (PK k) zz).1 q = y.val)) := Lib.hid (by unfold okF mkF; simp only [hq, Int.toNat_natCast])
                have HSZ := Lib.hid (HPZ.out k).bl
                have LS := Lib.hid (ld_blk32 HA5.out q (by rw [HSZ.out]; omega))
                have LV : Hid (∀ W, Grows w5 W → (loadVar 31 ⟨gL, oL + k * 14 + 5, none⟩).run Try.prog W = .ok (.agg (ivs y.val).toArray) W) := Lib.hid (ld_range (P := Try.prog) (cs := ivs y.val) (fun j v hv => by
                  have hj : j < 8 := (List.getElem?_eq_some_iff.1 hv).1
                  rw [Nat.add_assoc]
                  refine HC5.out (5 + j) v ?_
                  rw [← hv]
                  rcases (show j = 0 ∨ j = 1 ∨ j = 2 ∨ j = 3 ∨ j = 4 ∨ j = 5 ∨ j = 6 ∨ j = 7 by omega) with rfl | rfl | rfl | rfl | rfl | rfl | rfl | rfl <;> rfl) HL5.out Try.underlying31 rfl (by kernel_rfl))
                have LK : Hid (∀ W, Grows w5 W → (loadVar 32 ⟨gL, oL + k * 14, none⟩).run Try.prog W = .ok (.int .i8 y.k) W) := Lib.hid (ld_int Try.underlying32 c0)
                have LB : Hid (∀ W, Grows w5 W → (loadVar 3 ⟨gL, oL + k * 14 + 4, none⟩).run Try.prog W = .ok (.int .i64 (q : Int)) W) := Lib.hid (ld_int Try.underlying3 (by rw [← hq]; exact c4))
                have he := fun W => eq8_any W (blk (stF L (PK k) zz).1 q) y.val (blk_len HSZ.out hq32) y.val_len
                have hq0 : (0 : Int) ≤ (q : Int) := by omega
                have hq1 : (q : Int) < 32 := by omega
                have HC6 := Lib.hid (fun (W : World) (h : Grows w5 W) => show W.cell? ⟨gL, oL + k * 14, none⟩ = some (.int .i8 y.k) from (h.cell _ _ HL5.out).trans c0)
                clear c0 c1 c2 c3 c4 c5 c6 c7 c8 c9 c10 c11 c12 c13 hk1 hr hbb hq hst hrd
                obtain ⟨ser, hser⟩ : ∃ ser, (rdF L (PK k) zz).all okF = ser := ⟨_, rfl⟩
                have HSER := Lib.hid hser
                rw [hser]
                clear hser
                generalize decide (blk (stF L (PK k) zz).1 q = y.val) = eqb at *
                generalize blk (stF L (PK k) zz).1 q = v1 at *
                obtain ⟨v2, hv2⟩ : ∃ v2, y.val = v2 := ⟨_, rfl⟩
                rw [hv2] at LV he
                clear hv2
                go_wp2_with fail
                refine wp_region_class w5 (by kernel_rfl) (by kernel_rfl) (Grows.refl _) ?_
                repeat (first
                  | go_big_quiet_skip
                  | (go_big_quiet_want; first
                      | ((with_reducible refine quiet_load (b := gO) (off := q * 8) ?_ LS.out ?_); rfl; (simp only [Act.put, List.setIfInBounds_toArray, List.set_cons_zero, List.set_cons_succ]); go_big_quiet_on)
                      | ((with_reducible refine quiet_load (b := gL) (off := oL + k * 14 + 5) ?_ LV.out ?_); rfl; (simp only [Act.put, List.setIfInBounds_toArray, List.set_cons_zero, List.set_cons_succ]); go_big_quiet_on)
                      | ((with_reducible refine quiet_load (b := gL) (off := oL + k * 14 + 4) ?_ LB.out ?_); rfl; (simp only [Act.put, List.setIfInBounds_toArray, List.set_cons_zero, List.set_cons_succ]); go_big_quiet_on)
                      | ((with_reducible refine quiet_load (b := gL) (off := oL + k * 14) ?_ LK.out ?_); rfl; (simp only [Act.put, List.setIfInBounds_toArray, List.set_cons_zero, List.set_cons_succ]); go_big_quiet_on)
                      | (go_big_quiet_op; first
                          | go_big_quiet_on
                          | (refine ⟨_, fun _ _ => rfl, ?_⟩; go_big_quiet_on))))
                refine wpQuiet_nil ?_
                intro w6 hC6
                have HA6 := Lib.hid (HA5.out.grows hC6)
                have HU6 := Lib.hid (HU5.out.grows hC6)
                have k0 := HC6.out w6 hC6
                clear LS LV LK LB he hC6
                cases eqb with
                | false =>
                  go_wp2_with fail
                  go_roundg (gk - 1)
                  case measure => omega
                  exact ⟨k + 1, by omega, by go_num, by rw [HPS.out, HRDF.out, List.all_append]; simp [HOKF.out], by rw [HPS.out, HST.out]; exact HA6.out, HU6.out⟩
                | true =>
                  go_wp2_with fail
                  go_roundg (gk - 1)
                  case measure => omega
                  exact ⟨k + 1, by omega, by go_num, by rw [HPS.out, HRDF.out, List.all_append]; simp [HOKF.out, HSER.out], by rw [HPS.out, HST.out]; exact HA6.out, HU6.out⟩
              · have b1 : (y.k == (1 : Int)) = false := by simp [hk1]
                by_cases hk2 : y.k = 2
                · have b2 : (y.k == (2 : Int)) = true := by simp [hk2]
                  have hr : rwB y = true := by simp [rwB, hk2]
                  have hbb := rw_block HM.out HY.out hr
                  obtain ⟨q, hq⟩ : ∃ q : Nat, y.b = (q : Int) := ⟨y.b.toNat, by omega⟩
                  have hq32 : q < 32 := by omega
                  have HPS : Hid (PK (k + 1) = PK k ++ [k]) := Lib.hid (by rw [HPK.out, HPK.out, plK_more HY.out hr HNX.out, List.append_assoc])
                  obtain ⟨hst, hrd⟩ := st_write (PK k) HY.out hk2
                  have HST := Lib.hid hst
                  have HRDF := Lib.hid hrd
                  have HSZ := Lib.hid (HPZ.out k).bl
                  have HWS2 : Hid ((wstep y (stF L (PK k) zz)).1 = spl (stF L (PK k) zz).1 (q * 8) y.val) := Lib.hid (by unfold wstep wrt; rw [if_pos hk2, if_pos hk2, hq, Int.toNat_natCast])
                  have hq0 : (0 : Int) ≤ (q : Int) := by omega
                  have hq1 : (q : Int) < 32 := by omega
                  rw [hq] at c4
                  have hth := HA5.out.there (q * 8) 8 (by simp [ivs_len, HSZ.out]; omega)
                  have HTH := Lib.hid hth
                  clear hk1 hk2 hr hbb hq hst hrd hth
                  go_wp2_with fail
                  go_quiet (fail)
                  go_wp2_with fail
                  obtain ⟨w6, hw6⟩ : ∃ w6, w5.drewN nq = w6 := ⟨_, rfl⟩
                  have hg6 : Grows w5 w6 := by rw [← hw6]; exact (Grows.refl _).drewN _
                  rw [hw6]
                  clear hw6
                  have d0' := (hg6.cell _ _ HL5.out).trans c4
                  have z0 := (hg6.cell _ _ HL5.out).trans c5
                  have z1 := (hg6.cell _ _ HL5.out).trans c6
                  have z2 := (hg6.cell _ _ HL5.out).trans c7
                  have z3 := (hg6.cell _ _ HL5.out).trans c8
                  have z4 := (hg6.cell _ _ HL5.out).trans c9
                  have z5 := (hg6.cell _ _ HL5.out).trans c10
                  have z6 := (hg6.cell _ _ HL5.out).trans c11
                  have z7 := (hg6.cell _ _ HL5.out).trans c12
                  clear c0 c1 c2 c3 c4 c5 c6 c7 c8 c9 c10 c11 c12 c13
                  have HA6 := Lib.hid (HA5.out.grows hg6)
                  have cellq : ∀ j, j < 8 → ∃ v, w6.cell? ⟨gO, q * 8 + j, none⟩ = some v := fun j hj => at_some6 HA6.out (by rw [ivs_len, HSZ.out]; omega)
                  obtain ⟨s0, m0⟩ := cellq 0 (by omega)
                  obtain ⟨s1, m1⟩ := cellq 1 (by omega)
                  obtain ⟨s2, m2⟩ := cellq 2 (by omega)
                  obtain ⟨s3, m3⟩ := cellq 3 (by omega)
                  obtain ⟨s4, m4⟩ := cellq 4 (by omega)
                  obtain ⟨s5, m5⟩ := cellq 5 (by omega)
                  obtain ⟨s6, m6⟩ := cellq 6 (by omega)
                  obtain ⟨s7, m7⟩ := cellq 7 (by omega)
                  have fz0 := HA6.out.frozen (q * 8)
                  have fz1 := HA6.out.frozen (q * 8 + 1)
                  have fz2 := HA6.out.frozen (q * 8 + 2)
                  have fz3 := HA6.out.frozen (q * 8 + 3)
                  have fz4 := HA6.out.frozen (q * 8 + 4)
                  have fz5 := HA6.out.frozen (q * 8 + 5)
                  have fz6 := HA6.out.frozen (q * 8 + 6)
                  have fz7 := HA6.out.frozen (q * 8 + 7)
                  simp only [Nat.add_zero] at m0
                  have HU6 := Lib.hid (HU5.out.grows hg6)
                  clear cellq hg6
                  go_region
                  go_wp2_with fail
                  go_roundg (gk - 1)
                  case measure => omega
                  exact ⟨k + 1, by omega, by go_num, by rw [HPS.out, HRDF.out], by rw [HPS.out, HST.out, HWS2.out, ivs_spl]; exact (At.setCells (ivs y.val) (q * 8) HA6.out (by simp [ivs_len, HSZ.out, y.val_len]; omega)).drew, (Turns.sets (O := fun j => j = gO) (g := gO) (.inl rfl) (ivs y.val) (q * 8) HU6.out).grows ((Grows.refl _).drew)⟩
                · have b2 : (y.k == (2 : Int)) = false := by simp [hk2]
                  have HPS : Hid (PK (k + 1) = PK k) := Lib.hid (by rw [HPK.out, HPK.out, plK_same HY.out (fun h => by have h1 := h.1; simp [rwB, hk1, hk2] at h1)])
                  clear hk1 hk2
                  go_wp2_with fail
                  go_quiet (fail)
                  go_wp2_with fail
                  go_roundg (gk - 1)
                  case measure => omega
                  exact ⟨k + 1, by omega, by go_num, by rw [HPS.out], by rw [HPS.out]; exact HA5.out.grows ((Grows.refl _).drewN _), HU5.out.grows ((Grows.refl _).drewN _)⟩
            · rw [decide_eq_false hnx] at hen
              have HPS : Hid (PK (k + 1) = PK k) := Lib.hid (by rw [HPK.out, HPK.out, plK_same HY.out (fun h => hnx h.2)])
              go_wp2_with fail
              go_quiet (fail)
              go_wp2_with fail
              go_roundg (gk - 1)
              case measure => omega
              exact ⟨k + 1, by omega, by go_num, by rw [HPS.out], by rw [HPS.out]; exact HA.out.grows ((Grows.refl _).drewN _), HU.out.grows ((Grows.refl _).drewN _)⟩
          · have hkn : k = n := by omega
            subst hkn
            have HAE : Hid (At wi gO 46 (ivs (stF L (plI L (i + 1)) zz).1).toArray) := Lib.hid (by have := HA.out; rwa [HPE.out] at this)
            have hse : (rdF L (PK k) zz).all okF = (rdF L (plI L (i + 1)) zz).all okF := by rw [HPE.out]
            rw [hse]
            have HSE := Lib.hid (szF_names HM.out (i + 1)).bl
            have HAS : Hid (At wi (w.heap.size + 1) 46 (ivs S).toArray) := Lib.hid (HS.out.grows HGA.out)
            have HTE := Lib.hid (HT.out.grows HGA.out)
            obtain ⟨S2, hS2⟩ : ∃ S2, (stF L (plI L (i + 1)) zz).1 = S2 := ⟨_, rfl⟩
            have HS2 := Lib.hid hS2
            rw [hS2] at HAE HSE
            have HIE : Hid ((Try.prog.info? 46).map (·.size) = some (ivs S2).toArray.size) := Lib.hid (by rw [List.size_toArray, ivs_len, HSE.out]; exact info_st32)
            have HTH : Hid (wi.there (w.heap.size + 1) 0 (ivs S2).toArray.size) := Lib.hid (HAS.out.there 0 _ (by rw [List.size_toArray, List.size_toArray, ivs_len, ivs_len, HSE.out, HSL.out]; exact Nat.le_refl _))
            clear hS2 hse hlk
            go_wp2_with (first | (with_reducible refine wpList_load_row (o := ⟨some 82, .load 46 (.tmp 10), _, _, _, none⟩) rfl 46 (.tmp 10) rfl gO ?a82a 46 (ivs S2).toArray (0, 0) (.array 32 31) HAE.out.raw Try.underlying46 rfl HIE.out ?_) | (with_reducible refine wpList_store_mid (op := ⟨none, .store 46 (.tmp 5) (.tmp 82), _, _, _, none⟩) rfl 46 (.tmp 5) (.tmp 82) rfl (w.heap.size + 1) 0 (ivs S2).toArray ?b82a ?b82b HTH.out HIE.out (ivs_all S2) ?_))
            all_goals try rfl
            go_roundg (gk0 - 1)
            case measure => omega
            exact ⟨i + 1, by omega, by go_num, rfl, by rw [HS2.out]; exact At.all (cs := ivs S) HAS.out (by rw [ivs_len, ivs_len, HSE.out, HSL.out]), Turns.sets (O := fun j => j = w.heap.size + 1) (g := w.heap.size + 1) (.inl rfl) _ 0 HTE.out⟩
      · have hid : (decL L).length ≤ i := by rw [HD.out]; omega
        have HPA := Lib.hid (plI_all hid)
        have HRE : Hid (At wr w.heap.size 46 Z.toArray) := Lib.hid (HT.out.at HR2.out (by omega))
        have HGE := Lib.hid (HT.out.low HG2.out (fun i hi => by omega))
        have hsb : (stF L (plI L i) zz).1 = blkF L := by rw [plI_all hid]; rfl
        have hse : (rdF L (plI L i) zz).all okF = serF L := by rw [plI_all hid]; rfl
        rw [hsb] at HS
        rw [hse]
        have HBL := Lib.hid (blkF_len HM.out)
        obtain ⟨B, hB⟩ : ∃ B, blkF L = B := ⟨_, rfl⟩
        rw [hB] at HS HBL
        have HBB := Lib.hid hB
        clear hB
        have HIB : Hid ((Try.prog.info? 46).map (·.size) = some (ivs B).toArray.size) := Lib.hid (by rw [List.size_toArray, ivs_len, HBL.out]; exact info_st32)
        have HTR : Hid (wr.there w.heap.size 0 (ivs B).toArray.size) := Lib.hid (HRE.out.there 0 _ (by rw [List.size_toArray, List.size_toArray, ivs_len, HZL.out, HBL.out]; exact Nat.le_refl _))
        have h1 : ¬ (i : Int) < (D.length : Int) := by omega
        clear hlt hid hsb hse
        go_wp2_with (first | (with_reducible refine wpList_load_row (o := ⟨some 83, .load 46 (.tmp 5), _, _, _, none⟩) rfl 46 (.tmp 5) rfl (w.heap.size + 1) ?a831 46 (ivs B).toArray (0, 0) (.array 32 31) HS.out.raw Try.underlying46 rfl HIB.out ?_) | (with_reducible refine wpList_store_mid (op := ⟨none, .store 46 (.tmp 2) (.tmp 83), _, _, _, none⟩) rfl 46 (.tmp 2) (.tmp 83) rfl w.heap.size 0 (ivs B).toArray ?b831 ?b832 HTR.out HIB.out (ivs_all B) ?_))
        all_goals try rfl
        have HAF := At.all (vs := ivs B) (cs := Z) HRE.out (by rw [ivs_len, HBL.out, HZL.out])
        refine bodyPost_ret (results_row_tmp2 Try.results16 _ _ w.heap.size 46 (ivs B).toArray _ rfl HAF Try.underlying46 rfl HIB.out) rfl ⟨Grows.setCells (Nat.le_refl _) _ _ HGE.out, .inr ⟨HM.out, ?_⟩⟩
        rw [HBB.out]
        rfl
end Go.Proofs.Ytfigoeoimefngaa
