/-
  order.Replay: the walk.
-/
import Derived.Test.YtcailhkaeledbaaOrP
import Derived.Test.YtcailhkaeledbaaOrU
import Derived.Test.YtcailhkaeledbaaQuiet
import Derived.RegionTactic
namespace Go.Proofs.Ytcailhkaeledbaa
open Go.RowKit Go.Maps

theorem zstate (W : World) : (zeroValue 41).run Try.prog W = .ok (.agg (ivs zer256).toArray) W := by kernel_rfl
theorem Turns.sets {O O1 : Nat → Prop} {w : World} {g : Nat} (hg : O g ∨ w.heap.size ≤ g) : ∀ (vs : List Value) {w1 : World} (o : Nat), Turns O w w1 O1 → Turns O w (w1.setCells g o vs) O1
  | [], _, _, h => h
  | v :: vs, w1, o, h => by
    rw [World.setCells]
    exact Turns.sets hg vs (o + 1) (h.set hg o v)
theorem kinds8 : ∀ (n : Nat) (l : List Int), l.length = n → OfKinds (List.replicate n (some .u8)) (ivs l)
  | 0, [], _ => trivial
  | n + 1, z :: l, h => ⟨⟨z, rfl⟩, kinds8 n l (by simpa using h)⟩
theorem flatV : flatQ Try.prog 3 35 = some (List.replicate 8 (some .u8)) := by kernel_rfl
theorem mkVv : ∀ cs, mkV Try.prog 35 cs = .agg cs.toArray := fun cs => by unfold mkV; rw [Try.underlying35]
theorem ivs_inj {a b : List Int} (h : ivs a = ivs b) : a = b := by
  unfold ivs at h
  exact (List.map_inj_right (fun x y e => by injection e)).1 h
theorem eq8_any (W : World) (a b : List Int) (ha : a.length = 8) (hb : b.length = 8) : (Op.equalIn 10000 35 (.agg (ivs a).toArray) (.agg (ivs b).toArray)).run Try.prog W = .ok (decide (a = b)) W := by
  have := eq_flat_agg (P := Try.prog) W 3 35 _ flatV (by omega) mkVv _ _ (kinds8 8 a ha) (kinds8 8 b hb)
  rw [this]
  congr 1
  rw [Bool.eq_iff_iff, cellsEq_iff (kinds8 8 a ha) (kinds8 8 b hb), decide_eq_true_eq]
  exact ⟨ivs_inj, fun h => by rw [h]⟩
theorem ld_blk {w : World} {g : Nat} {s : List Int} (h : At w g 41 (ivs s).toArray) (b : Nat) (hb : b * 8 + 8 ≤ s.length) : ∀ W, Grows w W → (loadVar 35 ⟨g, b * 8, none⟩).run Try.prog W = .ok (.agg (ivs (blk s b)).toArray) W := by
  have := ld_mid (P := Try.prog) (o := b * 8) (n := 8) h Try.underlying35 rfl (by rw [ivs_len]; exact hb) (by kernel_rfl)
  rwa [show ((ivs s).drop (b * 8)).take 8 = ivs (blk s b) by unfold ivs blk; rw [List.map_take, List.map_drop]] at this
theorem rd_lt {w : World} {a : Option Addr} {xs : List Value} (h : Rd w a xs) (hx : 0 < xs.length) {b off : Nat} (e : a = some ⟨b, off, none⟩) : b < w.heap.size := by
  obtain ⟨b', off', e', hb, _⟩ := h.at hx
  rw [e] at e'
  injection e' with e'
  injection e' with e'
  omega
theorem field_s (W : World) (b c a d : Bool) (p : Int) (ax : Option Addr) (nx px : Nat) : (Instr.field 54 (.agg #[.bool b, .bool c, .bool a, .bool d, .int .i64 p, .slice ax nx px]) 5).run Try.prog W = .ok (.slice ax nx px) W := by kernel_rfl
theorem info_state : (Try.prog.info? 41).map (·.size) = some 256 := by kernel_rfl
def ReplP (L : List Sn) (w : World) (e : Ending) (w' : World) : Prop := ∃ ser, e = .returned (.tuple #[.agg (ivs (repl L)).toArray, .bool ser, .int .i64 0]) ∧ Grows w w'
set_option maxRecDepth 100000 in
set_option maxHeartbeats 8000000 in
theorem replay_any (L : List Sn) (n : Nat) (hn : L.length = n) (hL : n ≤ 200) (hok : ∀ x ∈ L, x.n.ok) (a : Option Addr) (cap : Nat) (w : World) (hr : Rd w a (rowsOf Sn.cs L)) (hm : mayB L = true) :
    Calls Try.prog 13 #[.slice a n cap] w (ReplP L w) := by
  have hz := zstate
  have HS0 := Lib.hid (At.new w 41 (ivs zer256).toArray)
  have HG0 := Lib.hid ((Grows.refl w).alloc (.cells (ivs zer256).toArray 41))
  have HT := Lib.hid (fun W (hg : Grows w W) => tracks_any L n hn (by omega) hok a cap W (hr.grows hg))
  have HR := Lib.hid hr
  have HN := Lib.hid hn
  have HM := Lib.hid hm
  have HOK := Lib.hid hok
  clear hr hn hm hok
  go_enter Try.func13, Try.ntmps13
  go_wp2_with fail
  clear hz
  generalize hw0 : w.alloc (.cells (ivs zer256).toArray 41) = w0 at *
  obtain ⟨gS, hgS⟩ : ∃ g, w.heap.size = g := ⟨_, rfl⟩
  have HLT0 : Hid (gS < w0.heap.size) := Lib.hid (by rw [← hgS]; exact HS0.out.lt)
  rw [hgS] at HS0 ⊢
  have HGS := Lib.hid hgS
  clear hw0 hgS
  refine (HT.out _ HG0.out).mono ?_
  rintro e w1 ⟨hg, ⟨h, _⟩ | ⟨_, m, V, rfl, hT⟩⟩
  · rw [HM.out] at h; cases h
  have HG1 := Lib.hid (HG0.out.trans hg)
  have HS1 := Lib.hid (HS0.out.grows hg)
  have HT1 := Lib.hid hT
  have HLT1 : Hid (gS < w1.heap.size) := Lib.hid HS1.out.lt
  clear hg hT HT HG0 HS0 HLT0
  go_wp2_with fail
  refine (decided_any HT1.out (by have := HN.out; omega) (com_at L HM.out)).mono ?_
  rintro e w2 ⟨aD, cD, rfl, hrD, hcD, hg, hbD⟩
  have HG2 := Lib.hid (HG1.out.trans hg)
  have HS2 := Lib.hid (HS1.out.grows hg)
  have HT2 := Lib.hid (HT1.out.grows hg)
  have HRD := Lib.hid hrD
  have HBD : Hid (∀ b off, aD = some ⟨b, off, none⟩ → ¬ b = gS) := Lib.hid (fun b off e h => by have := hbD b off e; have := HLT1.out; omega)
  have HLD : Hid ((decL L).length ≤ 200) := Lib.hid (by have h1 := decL_len L; have := HN.out; omega)
  have HND : Hid (∀ y ∈ decL L, y.ok) := Lib.hid (fun y hy => by
    unfold decL at hy
    obtain ⟨x, hx, rfl⟩ := List.mem_map.1 hy
    exact HOK.out x (List.mem_filter.1 hx).1)
  have HMS : Hid (¬ m = gS) := Lib.hid (fun e => by
    obtain ⟨es, cl, q⟩ := HT2.out.map.block
    have h := HS2.out
    unfold At at h
    rw [← e, q] at h
    cases h)
  have HCX : Hid (∀ i, i = gS → ∀ cur, w2.heap[i]? ≠ some (.cells cur 55 (0, 0))) := Lib.hid (fun i hi cur => by rw [hi]; exact HS2.out.noCx (by decide) cur)
  have HRB : Hid (∀ y, (V y).ownBlock ≠ some gS) := Lib.hid (fun y => own_apart (HT2.out.row y) HS2.out (by decide))
  have HREP : Hid ((decL L).foldl (rname L) zer256 = repl L) := Lib.hid rfl
  clear hg hrD hbD hcD HG1 HS1 HT1 HLT1
  generalize decL L = D at *
  go_wp2_with fail
  go_loopg [3, 24] D.length (fun gh v3 v24 wr => ∃ (i : Nat) (ser : Bool), gh + i = D.length ∧ v24 = .int .i64 (i : Int) ∧ v3 = .bool ser ∧ At wr gS 41 (ivs ((D.take i).foldl (rname L) zer256)).toArray ∧ Turns (fun j => j = gS) w2 wr (fun j => j = gS))
  case atStart => exact ⟨0, true, by omega, rfl, rfl, HS2.out, Turns.refl _ _⟩
  case round =>
    obtain ⟨i, ser, hgi, rfl, rfl, hS, hTu⟩ := hrel
    have HS := Lib.hid hS
    have HTU := Lib.hid hTu
    clear hS hTu
    have hld := HLD.out
    by_cases hlt : i < D.length
    · have HX := Lib.hid (List.getElem?_eq_getElem hlt)
      have HXO := Lib.hid (HND.out _ (List.getElem_mem hlt))
      have HSL : Hid (((D.take i).foldl (rname L) zer256).length = 256) := Lib.hid (repls_len HM.out _ _ zer256_len)
      have HFS : Hid ((D.take (i + 1)).foldl (rname L) zer256 = rname L ((D.take i).foldl (rname L) zer256) D[i]) := Lib.hid (fold_snoc _ _ _ hlt _)
      obtain ⟨gD, oD, rfl, hgD, d0, d1, d2⟩ := cells3 (HTU.out.rd HRD.out HBD.out) hlt
      generalize D[i] = x at *
      generalize (D.take i).foldl (rname L) zer256 = S0 at *
      have HT3 := Lib.hid (HT2.out.far HTU.out HMS.out HCX.out)
      obtain ⟨wx, hwx⟩ : ∃ wx, wr.alloc (.cells #[.int .i64 x.s, .int .i64 x.i, .int .i64 x.t] 31) = wx := ⟨_, rfl⟩
      have HT4 : Hid (Tr wx _ m L V) := Lib.hid (by rw [← hwx]; exact HT3.out.grows ((Grows.refl _).alloc _))
      have hlk := HT4.out.look HXO.out
      have hcx : ∀ o, wx.cell? ⟨wr.heap.size, o, none⟩ = #[.int .i64 x.s, .int .i64 x.i, .int .i64 x.t][o]? := by rw [← hwx]; exact (At.new wr _ _).cell
      obtain ⟨av, cv, hv, _⟩ := own_slice (HT4.out.row x)
      rw [hv] at hlk
      have hrow := HT4.out.row x
      rw [hv] at hrow
      have HROW := Lib.hid hrow
      clear hrow
      have HV := Lib.hid hv
      unfold Tk.cs Nm.v at hlk
      have hfs := field_s
      have HSX : Hid (At wx gS 41 (ivs S0).toArray) := Lib.hid (by rw [← hwx]; exact HS.out.alloc _)
      have HTX : Hid (Turns (fun j => j = gS) w2 wx (fun j => j = gS)) := Lib.hid (by rw [← hwx]; exact HTU.out.alloc _)
      have HLP : Hid ((st L x).length ≤ 200) := Lib.hid (by have := st_len L x; have := HN.out; omega)
      have HPS : Hid (∀ p ∈ st L x, ∃ y, StOk L x p y) := Lib.hid (fun p hp => st_ok HM.out hp)
      have HPL : Hid (∀ k, (((st L x).take k).foldl (rstep L) S0).length = 256) := Lib.hid (fun k => fold_len HM.out _ _ (fun p hp => List.mem_of_mem_take hp) HSL.out)
      have HRN : Hid (rname L S0 x = (st L x).foldl (rstep L) S0) := Lib.hid rfl
      have HRP : Hid (Rd wx av (stc (st L x))) := Lib.hid (Rd.own HROW.out)
      have HRA : Hid (∀ b off, av = some ⟨b, off, none⟩ → ¬ b = gS) := Lib.hid (fun b off e h => HRB.out x (by rw [HV.out, e, h]; rfl))
      clear hv HS HTU HT3 HROW hgD
      generalize st L x = ps at *
      go_wp2_with fail
      clear hlk hcx hfs hwx
      generalize gk = gk0 at *
      go_loopg [3, 33] ps.length (fun gh v3 v33 wr => ∃ (j : Nat) (ser : Bool), gh + j = ps.length ∧ v33 = .int .i64 (j : Int) ∧ v3 = .bool ser ∧ At wr gS 41 (ivs ((ps.take j).foldl (rstep L) S0)).toArray ∧ Turns (fun j => j = gS) wx wr (fun j => j = gS))
      case atStart => exact ⟨0, ser, by omega, rfl, rfl, HSX.out, Turns.refl _ _⟩
      case round =>
        obtain ⟨j, ser, hgj, rfl, rfl, hS, hTu⟩ := hrel
        have HS := Lib.hid hS
        have HTU := Lib.hid hTu
        clear hS hTu
        have hlp := HLP.out
        generalize wr = wi at *
        by_cases hlj : j < ps.length
        · obtain ⟨y, hy⟩ := HPS.out _ (List.getElem_mem hlj)
          have HY := Lib.hid hy
          have HFS : Hid ((ps.take (j + 1)).foldl (rstep L) S0 = wrt ((ps.take j).foldl (rstep L) S0) y) := Lib.hid (by rw [fold_snoc _ _ _ hlj]; unfold rstep; rw [hy.at_])
          obtain ⟨gP, oP, rfl, hgP, hcP⟩ := (HTU.out.rd HRP.out HRA.out).at (by rw [stc_len]; omega)
          have hp := hcP j (by rw [stc_len]; exact hlj)
          have hpc : (stc ps)[j]'(by rw [stc_len]; exact hlj) = cx (ps[j].1) ((ps[j].2 : Nat) : Int) := by simp [stc]
          rw [hpc, hy.blk] at hp
          have hat := hy.at_
          have hkl := (List.getElem?_eq_some_iff.1 hat).1
          generalize ps[j].2 = q at *
          obtain ⟨b, hb⟩ : ∃ b : Nat, y.b = (b : Int) := ⟨y.b.toNat, by have := hy.lo; omega⟩
          have hb32 : b < 32 := by have := hy.hi; omega
          have hgsl := HGS.out
          have e9 : L[q] = y := by rw [List.getElem?_eq_getElem hkl] at hat; injection hat
          obtain ⟨gL, oL, rfl, hgL, hcL⟩ := cells14 ((HTX.out.trans HTU.out).rd (HR.out.grows HG2.out) (fun b off e h => by have := rd_lt HR.out (by rw [rows_length Sn.cs_len]; omega) e; omega)) hkl
          rw [e9] at hcL
          obtain ⟨c0, c1, c2, c3, c4, c5, c6, c7, c8, c9, c10, c11, c12, c13⟩ := cells14_at hcL
          have hcv1 : ∀ W, (convert 56 3 (.float .f64 (fl y.b))).run Try.prog W = .ok (.int .i64 (b : Int)) W := fun W => by
            rw [hb]
            exact run_convert_float_int W _ _ _ _ _ _ (by kernel_rfl) Try.underlying3 (fl_int b (by omega))
          have hcv2 : ∀ W, (convert 56 3 (.float .f64 (fl (q : Int)))).run Try.prog W = .ok (.int .i64 (q : Int)) W := fun W =>
            run_convert_float_int W _ _ _ _ _ _ (by kernel_rfl) Try.underlying3 (fl_int q (by have := HN.out; omega))
          have hq0 : (0 : Int) ≤ (q : Int) := by omega
          have hqn : (q : Int) < (n : Int) := by have := HN.out; omega
          have hb0 : (0 : Int) ≤ (b : Int) := by omega
          have hb1 : (b : Int) < 32 := by omega
          have hj1 : (j : Int) < (ps.length : Int) := by omega
          have HHB := Lib.hid hb
          have HHY := Lib.hid hy
          unfold cx at hp
          clear hcP hpc hat hkl e9 hcL hgsl hb hy hgP
          go_wp2_with fail
          go_region
          clear hcv1 hcv2 c0 c1 c2 c3 c4 c5 c6 c7 c8 c9 c10 c11 c12 c13 hp hq0 hqn hgL
          have HSL5 := Lib.hid (HPL.out j)
          generalize (ps.take j).foldl (rstep L) S0 = S1 at *
          obtain ⟨w5, hw5⟩ : ∃ w5, (wi.alloc (.cells #[.int .i8 y.k, .int .i64 y.n.s, .int .i64 y.n.i, .int .i64 y.n.t, .int .i64 y.b, .int .u8 y.x0, .int .u8 y.x1, .int .u8 y.x2, .int .u8 y.x3, .int .u8 y.x4, .int .u8 y.x5, .int .u8 y.x6, .int .u8 y.x7, .int .i64 y.e] 37)).drew = w5 := ⟨_, rfl⟩
          have HB5 : Hid (At w5 wi.heap.size 37 #[.int .i8 y.k, .int .i64 y.n.s, .int .i64 y.n.i, .int .i64 y.n.t, .int .i64 y.b, .int .u8 y.x0, .int .u8 y.x1, .int .u8 y.x2, .int .u8 y.x3, .int .u8 y.x4, .int .u8 y.x5, .int .u8 y.x6, .int .u8 y.x7, .int .i64 y.e]) := Lib.hid (by rw [← hw5]; exact (At.new wi _ _).drew)
          have HS5 : Hid (At w5 gS 41 (ivs S1).toArray) := Lib.hid (by rw [← hw5]; exact (HS.out.alloc _).drew)
          have HT5 : Hid (Turns (fun j => j = gS) wx w5 (fun j => j = gS)) := Lib.hid (by rw [← hw5]; exact HTU.out.grows (((Grows.refl _).alloc _).drew))
          have HNE : Hid (gS ≠ wi.heap.size) := Lib.hid (by have := HS.out.lt; omega)
          rw [hw5]
          clear hw5 HS HTU
          generalize wi.heap.size = gB at *
          have cB := HB5.out.cell
          by_cases hk : y.k = 2
          · have bk : (y.k == (2 : Int)) = true := by simp [hk]
            have HW : Hid (wrt S1 y = spl S1 (b * 8) y.val) := Lib.hid (by unfold wrt; rw [if_pos hk, HHB.out, Int.toNat_natCast])
            clear hk
            go_wp2_with (with_reducible refine wpList_store_mid (op := ⟨none, .store 35 (.tmp 52) (.tmp 51), _, _, _, none⟩) rfl 35 (.tmp 52) (.tmp 51) rfl gS (b * 8) #[.int .u8 y.x0, .int .u8 y.x1, .int .u8 y.x2, .int .u8 y.x3, .int .u8 y.x4, .int .u8 y.x5, .int .u8 y.x6, .int .u8 y.x7] ?s1a ?s1b ?s1c ?s1d ?s1e ?_)
            case s1a => rfl
            case s1b => rfl
            case s1c => exact HS5.out.there (b * 8) 8 (by simp [ivs_len, HSL5.out]; omega)
            case s1d => kernel_rfl
            case s1e => simp [Value.oneCell']
            go_roundg (gk - 1)
            case measure => omega
            case rel =>
              refine ⟨j + 1, ser, by omega, by go_num, rfl, ?_, Turns.sets (O := fun j => j = gS) (g := gS) (.inl rfl) _ _ HT5.out⟩
              rw [HFS.out, HW.out, ivs_spl]
              exact At.setCells (ivs y.val) (b * 8) HS5.out (by simp [ivs_len, HSL5.out, y.val_len]; omega)
          · have bk : (y.k == (2 : Int)) = false := by simp [hk]
            have HW : Hid (wrt S1 y = S1) := Lib.hid (by unfold wrt; rw [if_neg hk])
            clear hk
            have he := fun W => eq8_any W (blk S1 b) y.val (by unfold blk; rw [List.length_take, List.length_drop, HSL5.out]; omega) y.val_len
            have LS := Lib.hid (ld_blk HS5.out b (by rw [HSL5.out]; omega))
            have LB : Hid (∀ W, Grows w5 W → (loadVar 35 ⟨gB, 5, none⟩).run Try.prog W = .ok (.agg (ivs y.val).toArray) W) := Lib.hid (ld_mid (P := Try.prog) (cs := y.cs) (o := 5) (n := 8) HB5.out Try.underlying35 rfl (by simp [Sn.cs]) (by kernel_rfl))
            generalize decide (blk S1 b = y.val) = eqb at *
            generalize blk S1 b = v1 at *
            generalize y.val = v2 at *
            go_wp2_with fail
            refine wp_region_class w5 (by kernel_rfl) (by kernel_rfl) (Grows.refl _) ?_
            repeat (first
              | go_big_quiet_skip
              | (go_big_quiet_want; first
                  | (refine quiet_load (b := gS) (off := b * 8) rfl LS.out ?_; (simp only [Act.put, List.setIfInBounds_toArray, List.set_cons_zero, List.set_cons_succ]); go_big_quiet_on)
                  | (refine quiet_load (b := gB) (off := 5) rfl LB.out ?_; (simp only [Act.put, List.setIfInBounds_toArray, List.set_cons_zero, List.set_cons_succ]); go_big_quiet_on)
                  | (go_big_quiet_op; first
                      | go_big_quiet_on
                      | (refine ⟨_, fun _ _ => rfl, ?_⟩; go_big_quiet_on))))
            refine wpQuiet_nil ?_
            intro w6 hC6
            have HS6 := Lib.hid (HS5.out.grows hC6)
            have HT6 := Lib.hid (HT5.out.grows hC6)
            clear LS LB he hC6
            cases eqb with
            | false =>
              go_wp2_with fail
              go_roundg (gk - 1)
              case measure => omega
              case rel => exact ⟨j + 1, false, by omega, by go_num, rfl, by rw [HFS.out, HW.out]; exact HS6.out, HT6.out⟩
            | true =>
              go_wp2_with fail
              go_roundg (gk - 1)
              case measure => omega
              case rel => exact ⟨j + 1, ser, by omega, by go_num, rfl, by rw [HFS.out, HW.out]; exact HS6.out, HT6.out⟩
        · have hge : ¬ (j : Int) < (ps.length : Int) := by omega
          have HFJ : Hid ((D.take (i + 1)).foldl (rname L) zer256 = (ps.take j).foldl (rstep L) S0) := Lib.hid (by rw [HFS.out, HRN.out, List.take_of_length_le (by omega)])
          clear hlj
          go_wp2_with fail
          go_roundg (gk0 - 1)
          case measure => omega
          case rel => exact ⟨i + 1, ser, by omega, by go_num, rfl, by rw [HFJ.out]; exact HS.out, HTX.out.trans HTU.out⟩
    · have hge : ¬ (i : Int) < (D.length : Int) := by omega
      have HSE : Hid (At wr gS 41 (ivs (repl L)).toArray) := Lib.hid (by
        have := HS.out
        rwa [List.take_of_length_le (by omega), HREP.out] at this)
      have HSZ : Hid ((repl L).length = 256) := Lib.hid (by unfold repl; exact repls_len HM.out _ _ zer256_len)
      obtain ⟨R, hR⟩ : ∃ R, repl L = R := ⟨_, rfl⟩
      rw [hR] at HSE HSZ
      have HRR := Lib.hid hR
      clear hlt hR
      have HGE := Lib.hid (HTU.out.low HG2.out (fun i hi => by have := HGS.out; omega))
      go_wp2_with (first | (with_reducible refine wpList_load_row (o := ⟨some 61, .load 41 (.tmp 2), _, _, _, none⟩) rfl 41 (.tmp 2) rfl gS ?a1 41 (ivs R).toArray (0, 0) (.array 32 35) ?a2 ?a3 rfl ?a5 ?_) | (with_reducible refine wpList_store_mid (op := ⟨none, .store 41 (.tmp 2) (.tmp 61), _, _, _, none⟩) rfl 41 (.tmp 2) (.tmp 61) rfl gS 0 (ivs R).toArray ?b1 ?b2 ?b3 ?b4 ?b5 ?_))
      case a2 => exact HSE.out
      case a5 => rw [ivs_len, HSZ.out]; exact Option.map_eq_some_iff.1 info_state
      case b3 => exact HSE.out.there 0 _ (by simp)
      case b4 => rw [ivs_len, HSZ.out]; exact Option.map_eq_some_iff.1 info_state
      case b5 => exact one_ints .u8 R
      have HAF := At.all (vs := ivs R) (cs := ivs R) HSE.out rfl
      refine bodyPost_ret (results_row_tmp2 Try.results13 _ _ gS 41 (ivs R).toArray _ rfl HAF Try.underlying41 rfl (by rw [show (ivs R).toArray.size = 256 by simp [ivs_len, HSZ.out]]; exact info_state)) rfl ⟨ser, by rw [HRR.out]; rfl, Grows.setCells (by have := HGS.out; omega) _ _ HGE.out⟩
end Go.Proofs.Ytcailhkaeledbaa
