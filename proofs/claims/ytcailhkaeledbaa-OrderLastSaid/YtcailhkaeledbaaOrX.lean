/-
  The law OrderLast: its walk.
-/
import Derived.Test.YtcailhkaeledbaaOrW
namespace Go.Proofs.Ytcailhkaeledbaa
open Go.RowKit Go.Maps

theorem lname_snoc (L : List Sn) (c : Int) (n : Nm) (v : List Int) (k : Nat) (hk : k < L.length) : lname (L.take (k + 1)) c n v = if lwB n c L[k] then L[k].val else lname (L.take k) c n v := fold_snoc _ _ _ hk _
theorem lall_snoc (L : List Sn) (c : Int) (ns : List Nm) (v : List Int) (k : Nat) (hk : k < ns.length) : lall L c (ns.take (k + 1)) v = lname L c ns[k] (lall L c (ns.take k) v) := fold_snoc _ _ _ hk _
theorem lname_len (L : List Sn) (c : Int) (n : Nm) : ∀ (v : List Int), v.length = 8 → (lname L c n v).length = 8 := by
  induction L with
  | nil => intro v h; exact h
  | cons x L ih =>
    intro v h
    show ((x :: L).foldl _ v).length = 8
    rw [List.foldl_cons]
    refine ih _ ?_
    split
    · exact x.val_len
    · exact h
theorem lall_len (L : List Sn) (c : Int) : ∀ (ns : List Nm) (v : List Int), v.length = 8 → (lall L c ns v).length = 8
  | [], _, h => h
  | n :: ns, v, h => lall_len L c ns _ (lname_len L c n v h)
def zer8 : List Int := List.replicate 8 0
theorem zer8_len : zer8.length = 8 := List.length_replicate
theorem zval (W : World) : (zeroValue 35).run Try.prog W = .ok (.agg (ivs zer8).toArray) W := by kernel_rfl
theorem info_val : (Try.prog.info? 35).map (·.size) = some 8 := by kernel_rfl
set_option maxRecDepth 100000 in
set_option maxHeartbeats 8000000 in
theorem last_walk (L : List Sn) (n : Nat) (hn : L.length = n) (a : Option Addr) (cap : Nat) (hok : ∀ x ∈ L, x.n.ok) (c : Int) (w : World) (hr : Rd w a (rowsOf Sn.cs L)) :
    Calls Try.prog 5 #[.slice a n cap, .int .i64 c] w fun e w' => e = .returned (.bool true) ∧ Grows w w' := by
  have HG0 := Lib.hid (Grows.refl w)
  by_cases hbig : 200 < n
  · have hb : (200 : Int) < (n : Int) := by omega
    have hb2 : decide ((200 : Int) < (n : Int)) = true := by simpa using hb
    clear hn hok hr hbig
    go_enter Try.func5, Try.ntmps5
    go_wp2_with fail
    refine (wakes_any _).mono ?_
    rintro e wz ⟨rfl, hgz⟩
    go_wp2_with fail
    go_ret
    exact ⟨rfl, (HG0.out).trans hgz⟩
  have hb : ¬ (200 : Int) < (n : Int) := by omega
  by_cases hc0 : c < 0
  · clear hn hok hr hbig
    go_enter Try.func5, Try.ntmps5
    go_wp2_with fail
    refine (wakes_any _).mono ?_
    rintro e wz ⟨rfl, hgz⟩
    go_wp2_with fail
    go_ret
    exact ⟨rfl, (HG0.out).trans hgz⟩
  by_cases hc1 : 32 ≤ c
  · clear hn hok hr hbig
    go_enter Try.func5, Try.ntmps5
    go_wp2_with fail
    refine (wakes_any _).mono ?_
    rintro e wz ⟨rfl, hgz⟩
    go_wp2_with fail
    go_ret
    exact ⟨rfl, (HG0.out).trans hgz⟩
  obtain ⟨c, rfl⟩ : ∃ c' : Nat, c = (c' : Int) := ⟨c.toNat, by omega⟩
  have HC : Hid (c < 32) := Lib.hid (by omega)
  have hc2 : (0 : Int) ≤ (c : Int) := by omega
  have hc3 : (c : Int) < 32 := by omega
  clear hc0
  have HN := Lib.hid hn
  have HR := Lib.hid hr
  have HB := Lib.hid hbig
  have HO := Lib.hid (order_p L n hn (by omega) hok a cap w hr)
  have hz := zstate
  have hzv := zval
  cases hm : mayB L
  · have HP := Lib.hid (fun W (hg : Grows w W) => replay_no L n hn (by omega) hok a cap W (hr.grows hg) hm)
    unfold OrdP at HO
    rw [hm] at HO
    obtain ⟨Z, hZ⟩ : ∃ Z, zer256 = Z := ⟨_, rfl⟩
    have HSZ : Hid (Z.length = 256) := Lib.hid (by rw [← hZ]; exact zer256_len)
    rw [hZ] at HP hz
    have HZ := Lib.hid hZ
    clear hm hn hok hr hbig hZ
    go_enter Try.func5, Try.ntmps5
    go_wp2_with fail
    refine HO.out.mono ?_
    rintro e w1 ⟨hg, ⟨_, rfl⟩ | ⟨h, _⟩⟩
    · have HG1 := Lib.hid hg
      clear hg HO
      go_wp2_with fail
      refine (HP.out _ HG1.out).mono ?_
      rintro e w2 ⟨rfl, hg⟩
      have HG2 := Lib.hid (HG1.out.trans hg)
      have HA3 := Lib.hid (At.new w2 41 (ivs Z).toArray)
      clear hg HP HG1
      go_wp2_with (with_reducible refine wpList_store_mid (op := ⟨none, .store 41 (.tmp 7) (.tmp 35), _, _, _, none⟩) rfl 41 (.tmp 7) (.tmp 35) rfl w2.heap.size 0 (ivs Z).toArray ?b1 ?b2 ?b3 ?b4 ?b5 ?_)
      case b1 => rfl
      case b2 => rfl
      case b3 => exact HA3.out.there 0 _ (by simp [ivs_len, HSZ.out])
      case b4 => rw [show (ivs Z).toArray.size = 256 by simp [ivs_len, HSZ.out]]; exact info_state
      case b5 => exact all_one Z
      obtain ⟨w3, hw3⟩ : ∃ w3, ((w2.alloc (.cells (ivs Z).toArray 41)).setCells w2.heap.size 0 (ivs Z)).alloc (.cells (ivs zer8).toArray 35) = w3 := ⟨_, rfl⟩
      have HG3 : Hid (Grows w w3) := Lib.hid (by rw [← hw3]; exact (Grows.setCells HG2.out.size _ _ (HG2.out.alloc _)).alloc _)
      rw [hw3]
      clear hw3
      refine wp_loop_rounds 1 ?_
      rw [rounds_succ]
      go_wp2_with fail
      refine wp_region_class w3 (by kernel_rfl) (by kernel_rfl) (Grows.refl _) ?_
      repeat (first
        | go_big_quiet_skip
        | (go_big_quiet_want; first
            | (go_big_quiet_op; first
                | go_big_quiet_on
                | (refine ⟨_, fun _ _ => rfl, ?_⟩; go_big_quiet_on)
                | go_big_quiet_call ((intro hC; go_at_call 7; refine (wakes_any _).mono ?_; rintro e w11 ⟨rfl, hg⟩; exact ⟨rfl, hC.trans hg⟩)))))
      refine wpQuiet_nil ?_
      intro w4 hC
      have HG4 := Lib.hid (HG3.out.trans hC)
      clear hC
      go_wp2_with fail
      go_ret
      exact ⟨rfl, HG4.out⟩
    · cases h
  · have HP := Lib.hid (fun W (hg : Grows w W) => replay_any L n hn (by omega) hok a cap W (hr.grows hg) hm)
    have HLE := Lib.hid (last_eq hm c HC.out)
    have HLD : Hid ((decL L).length ≤ 200) := Lib.hid (by have h1 := decL_len L; have := HN.out; have := HB.out; omega)
    have HSZ : Hid ((repl L).length = 256) := Lib.hid (by unfold repl; exact repls_len hm _ _ zer256_len)
    unfold OrdP at HO
    unfold ReplP at HP
    rw [hm] at HO
    clear hm hn hok hr hbig
    generalize decL L = D at *
    generalize repl L = Z at *
    go_enter Try.func5, Try.ntmps5
    go_wp2_with fail
    refine HO.out.mono ?_
    rintro e w1 ⟨hg, ⟨h, _⟩ | ⟨_, aD, cD, rfl, hrD, hcD⟩⟩
    · cases h
    have HG1 := Lib.hid hg
    have HRD1 := Lib.hid hrD
    clear hg HO hrD hcD
    go_wp2_with fail
    refine (HP.out _ HG1.out).mono ?_
    rintro e w2 ⟨ser, rfl, hg⟩
    have HG2 := Lib.hid (HG1.out.trans hg)
    have HRD2 := Lib.hid (HRD1.out.grows hg)
    obtain ⟨Z0, hZ0⟩ : ∃ Z, zer256 = Z := ⟨_, rfl⟩
    rw [hZ0] at hz
    have HZ0 : Hid (Z0.length = 256) := Lib.hid (by rw [← hZ0]; exact zer256_len)
    have HA3 := Lib.hid (At.new w2 41 (ivs Z0).toArray)
    clear hg HP HG1 HRD1 hZ0
    go_wp2_with (with_reducible refine wpList_store_mid (op := ⟨none, .store 41 (.tmp 7) (.tmp 35), _, _, _, none⟩) rfl 41 (.tmp 7) (.tmp 35) rfl w2.heap.size 0 (ivs Z).toArray ?b1 ?b2 ?b3 ?b4 ?b5 ?_)
    case b1 => rfl
    case b2 => rfl
    case b3 => exact HA3.out.there 0 _ (by simp [ivs_len, HSZ.out, HZ0.out])
    case b4 => rw [show (ivs Z).toArray.size = 256 by simp [ivs_len, HSZ.out]]; exact info_state
    case b5 => exact all_one Z
    obtain ⟨w3, hw3⟩ : ∃ w3, ((w2.alloc (.cells (ivs Z0).toArray 41)).setCells w2.heap.size 0 (ivs Z)).alloc (.cells (ivs zer8).toArray 35) = w3 := ⟨_, rfl⟩
    obtain ⟨gT, hgT⟩ : ∃ g, w2.heap.size = g := ⟨_, rfl⟩
    have HG3 : Hid (Grows w2 w3) := Lib.hid (by rw [← hw3]; exact (Grows.setCells (Nat.le_refl _) _ _ ((Grows.refl _).alloc _)).alloc _)
    have HT3 : Hid (At w3 gT 41 (ivs Z).toArray) := Lib.hid (by rw [← hw3, ← hgT]; exact (At.all (vs := ivs Z) (cs := ivs Z0) HA3.out (by rw [ivs_len, ivs_len, HSZ.out, HZ0.out])).alloc _)
    have HW3 : Hid (At w3 (gT + 1) 35 (ivs zer8).toArray) := Lib.hid (by
      have := At.new ((w2.alloc (.cells (ivs Z0).toArray 41)).setCells w2.heap.size 0 (ivs Z)) 35 (ivs zer8).toArray
      rw [size_setCells, World.size_alloc] at this
      rw [← hw3, ← hgT]
      exact this)
    have HRD3 := Lib.hid (HRD2.out.grows HG3.out)
    have HL3 := Lib.hid (HR.out.grows (HG2.out.trans HG3.out))
    have HNL : Hid (∀ b off, a = some ⟨b, off, none⟩ → 0 < L.length → ¬ b = gT + 1) := Lib.hid (fun b off e h1 h2 => by have := rd_lt HR.out (by rw [rows_length Sn.cs_len]; omega) e; have := HG2.out.size; omega)
    have HND : Hid (∀ b off, aD = some ⟨b, off, none⟩ → 0 < D.length → ¬ b = gT + 1) := Lib.hid (fun b off e h1 h2 => by have := rd_lt HRD2.out (by rw [rows_length Nm.cs_len]; omega) e; omega)
    have HGW : Hid (w.heap.size ≤ gT + 1) := Lib.hid (by have := HG2.out.size; omega)
    have HGE3 := Lib.hid (HG2.out.trans HG3.out)
    have hz8 : (ivs zer8).length = 8 := by rw [ivs_len, zer8_len]
    rw [hw3, hgT]
    clear hw3 hgT HA3 HRD2 hz hzv HG3
    clear hz8
    go_loopg [43] D.length (fun gh v43 wr => ∃ (i : Nat), gh + i = D.length ∧ v43 = .int .i64 (i : Int) ∧ At wr (gT + 1) 35 (ivs (lall L c (D.take i) zer8)).toArray ∧ Turns (fun j => j = gT + 1) w3 wr (fun j => j = gT + 1))
    case atStart => exact ⟨0, by omega, rfl, HW3.out, Turns.refl _ _⟩
    case round =>
      obtain ⟨i, hgi, rfl, hS, hTu⟩ := hrel
      have HS := Lib.hid hS
      have HTU := Lib.hid hTu
      clear hS hTu
      have hld := HLD.out
      have HV8 : Hid ((lall L c (D.take i) zer8).length = 8) := Lib.hid (lall_len L c _ _ zer8_len)
      by_cases hlt : i < D.length
      · have HFS : Hid (lall L c (D.take (i + 1)) zer8 = lname L c D[i] (lall L c (D.take i) zer8)) := Lib.hid (lall_snoc _ _ _ _ _ hlt)
        obtain ⟨gD, oD, rfl, hgD, d0, d1, d2⟩ := cells3 (HTU.out.rd HRD3.out (fun b off e => HND.out b off e (by omega))) hlt
        generalize D[i] = x at *
        generalize lall L c (D.take i) zer8 = V0 at *
        have hi1 : (i : Int) < (D.length : Int) := by omega
        have HAX := Lib.hid (At.new wr 31 #[.int .i64 x.s, .int .i64 x.i, .int .i64 x.t])
        generalize gk = gk0 at *
        go_wp2_with fail
        obtain ⟨wx, hwx⟩ : ∃ wx, wr.alloc (.cells #[.int .i64 x.s, .int .i64 x.i, .int .i64 x.t] 31) = wx := ⟨_, rfl⟩
        have HSX : Hid (At wx (gT + 1) 35 (ivs V0).toArray) := Lib.hid (by rw [← hwx]; exact HS.out.alloc _)
        have HTX : Hid (Turns (fun j => j = gT + 1) w3 wx (fun j => j = gT + 1)) := Lib.hid (by rw [← hwx]; exact HTU.out.alloc _)
        rw [hwx] at HAX ⊢
        have HXN : Hid (¬ wr.heap.size = gT + 1) := Lib.hid (by have := HS.out.lt; omega)
        clear hwx d0 d1 d2 hgD hi1 HS HTU
        generalize wr.heap.size = gX at *
        go_loopg [49] n (fun gh v49 wi => ∃ (j : Nat), gh + j = n ∧ v49 = .int .i64 (j : Int) ∧ At wi (gT + 1) 35 (ivs (lname (L.take j) c x V0)).toArray ∧ Turns (fun j => j = gT + 1) wx wi (fun j => j = gT + 1))
        case atStart => exact ⟨0, by omega, rfl, HSX.out, Turns.refl _ _⟩
        case round =>
          obtain ⟨j, hgj, rfl, hS, hTu⟩ := hrel
          have HS := Lib.hid hS
          have HTU := Lib.hid hTu
          clear hS hTu
          generalize wr = wi at *
          by_cases hlj : j < n
          · have hjl : j < L.length := by rw [HN.out]; exact hlj
            have HFJ : Hid (lname (L.take (j + 1)) c x V0 = if lwB x c L[j] then L[j].val else lname (L.take j) c x V0) := Lib.hid (lname_snoc _ _ _ _ _ hjl)
            obtain ⟨gL, oL, rfl, hgL, hcL⟩ := cells14 ((HTX.out.trans HTU.out).rd HL3.out (fun b off e => HNL.out b off e (by omega))) hjl
            obtain ⟨c0, c1, c2, c3, c4, c5, c6, c7, c8, c9, c10, c11, c12, c13⟩ := cells14_at hcL
            have HV9 : Hid ((lname (L.take j) c x V0).length = 8) := Lib.hid (lname_len _ _ _ _ HV8.out)
            generalize L[j] = y at *
            generalize lname (L.take j) c x V0 = V1 at *
            have cX := (HTU.out.at HAX.out HXN.out).cell
            have hgX := (HTU.out.at HAX.out HXN.out).lt
            have he := eqn_any
            have hj1 : (j : Int) < (n : Int) := by omega
            have HS5 := Lib.hid (HS.out.alloc (.cells #[.int .i8 y.k, .int .i64 y.n.s, .int .i64 y.n.i, .int .i64 y.n.t, .int .i64 y.b, .int .u8 y.x0, .int .u8 y.x1, .int .u8 y.x2, .int .u8 y.x3, .int .u8 y.x4, .int .u8 y.x5, .int .u8 y.x6, .int .u8 y.x7, .int .i64 y.e] 37))
            have HT5 := Lib.hid (HTU.out.alloc (.cells #[.int .i8 y.k, .int .i64 y.n.s, .int .i64 y.n.i, .int .i64 y.n.t, .int .i64 y.b, .int .u8 y.x0, .int .u8 y.x1, .int .u8 y.x2, .int .u8 y.x3, .int .u8 y.x4, .int .u8 y.x5, .int .u8 y.x6, .int .u8 y.x7, .int .i64 y.e] 37))
            clear hcL hjl HS HTU
            by_cases hk : y.k = 2
            · have bk : (y.k == (2 : Int)) = true := by simp [hk]
              clear hk
              by_cases hn : y.n = x
              · have hd : decide (y.n = x) = true := by simp [hn]
                clear hn
                by_cases hb : y.b = (c : Int)
                · have bb : (y.b == (c : Int)) = true := by simp [hb]
                  have HLW : Hid (lwB x c y = true) := Lib.hid (by unfold lwB; rw [bk, hd, bb]; rfl)
                  clear hb
                  go_wp2_with (with_reducible refine wpList_store_mid (op := ⟨none, .store 35 (.tmp 10) (.tmp 69), _, _, _, none⟩) rfl 35 (.tmp 10) (.tmp 69) rfl (gT + 1) 0 #[.int .u8 y.x0, .int .u8 y.x1, .int .u8 y.x2, .int .u8 y.x3, .int .u8 y.x4, .int .u8 y.x5, .int .u8 y.x6, .int .u8 y.x7] ?s1a ?s1b ?s1c ?s1d ?s1e ?_)
                  case s1a => rfl
                  case s1b => rfl
                  case s1c => exact HS5.out.there 0 8 (by simp [ivs_len, HV9.out])
                  case s1d => kernel_rfl
                  case s1e => simp [Value.oneCell']
                  go_roundg (gk - 1)
                  case measure => omega
                  case rel =>
                    refine ⟨j + 1, by omega, by go_num, ?_, Turns.sets (O := fun j => j = gT + 1) (g := gT + 1) (.inl rfl) _ _ HT5.out⟩
                    rw [HFJ.out, if_pos HLW.out]
                    exact At.all (vs := ivs y.val) (cs := ivs V1) HS5.out (by rw [ivs_len, ivs_len, HV9.out, y.val_len])
                · have bb : (y.b == (c : Int)) = false := by simp [hb]
                  have HLW : Hid (lwB x c y = false) := Lib.hid (by unfold lwB; rw [bb, Bool.and_false])
                  clear hb
                  go_wp2_with fail
                  go_roundg (gk - 1)
                  case measure => omega
                  case rel => exact ⟨j + 1, by omega, by go_num, by rw [HFJ.out, if_neg (by rw [HLW.out]; simp)]; exact HS5.out, HT5.out⟩
              · have hd : decide (y.n = x) = false := by simp [hn]
                have HLW : Hid (lwB x c y = false) := Lib.hid (by unfold lwB; rw [hd, Bool.and_false, Bool.false_and])
                clear hn
                go_wp2_with fail
                go_roundg (gk - 1)
                case measure => omega
                case rel => exact ⟨j + 1, by omega, by go_num, by rw [HFJ.out, if_neg (by rw [HLW.out]; simp)]; exact HS5.out, HT5.out⟩
            · have bk : (y.k == (2 : Int)) = false := by simp [hk]
              have HLW : Hid (lwB x c y = false) := Lib.hid (by unfold lwB; rw [bk]; rfl)
              clear hk
              go_wp2_with fail
              go_roundg (gk - 1)
              case measure => omega
              case rel => exact ⟨j + 1, by omega, by go_num, by rw [HFJ.out, if_neg (by rw [HLW.out]; simp)]; exact HS5.out, HT5.out⟩
          · have hge : ¬ (j : Int) < (n : Int) := by omega
            have HFJ : Hid (lall L c (D.take (i + 1)) zer8 = lname (L.take j) c x V0) := Lib.hid (by rw [HFS.out, List.take_of_length_le (by have := HN.out; omega)])
            clear hlj
            go_wp2_with fail
            go_roundg (gk0 - 1)
            case measure => omega
            case rel => exact ⟨i + 1, by omega, by go_num, by rw [HFJ.out]; exact HS.out, HTX.out.trans HTU.out⟩
      · have hge : ¬ (i : Int) < (D.length : Int) := by omega
        have hve : lall L c (D.take i) zer8 = blk Z c := by rw [List.take_of_length_le (by omega), HLE.out]; rfl
        rw [hve] at HS HV8
        have HTE := Lib.hid (HTU.out.at HT3.out (by omega))
        have LS := Lib.hid (ld_blk HTE.out c (by rw [HSZ.out]; have := HC.out; omega))
        have he := fun W => (eq8_any W (blk Z c) (blk Z c) HV8.out HV8.out).trans (by rw [decide_eq_true rfl])
        have LW := Lib.hid (ld_row (P := Try.prog) (ty := 35) HS.out Try.underlying35 rfl (by rw [show (ivs (blk Z c)).toArray.size = 8 by simp [ivs_len, HV8.out]]; exact info_val))
        have HGE := Lib.hid (HTU.out.low HGE3.out (fun i hi => by have := HGW.out; omega))
        generalize blk Z c = vv at *
        clear hve hlt
        go_wp2_with fail
        refine wp_region_class wr (by kernel_rfl) (by kernel_rfl) (Grows.refl _) ?_
        repeat (first
          | go_big_quiet_skip
          | (go_big_quiet_want; first
              | (refine quiet_load (b := gT) (off := c * 8) rfl LS.out ?_; (simp only [Act.put, List.setIfInBounds_toArray, List.set_cons_zero, List.set_cons_succ]); go_big_quiet_on)
              | (refine quiet_load (b := gT + 1) (off := 0) rfl LW.out ?_; (simp only [Act.put, List.setIfInBounds_toArray, List.set_cons_zero, List.set_cons_succ]); go_big_quiet_on)
              | (go_big_quiet_op; first
                  | go_big_quiet_on
                  | (refine ⟨_, fun _ _ => rfl, ?_⟩; go_big_quiet_on)
                  | go_big_quiet_call ((intro hC; go_at_call 7; refine (wakes_any _).mono ?_; rintro e w11 ⟨rfl, hg⟩; exact ⟨rfl, hC.trans hg⟩)))))
        refine wpQuiet_nil ?_
        intro w4 hC
        have HG4 := Lib.hid (HGE.out.trans hC)
        clear hC LS LW he
        go_wp2_with fail
        go_ret
        exact ⟨rfl, HG4.out⟩
end Go.Proofs.Ytcailhkaeledbaa
