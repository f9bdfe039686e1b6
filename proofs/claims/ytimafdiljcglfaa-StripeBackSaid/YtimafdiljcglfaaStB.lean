/-
  stripe.Change.
-/
import Derived.Test.YtimafdiljcglfaaStA
import Derived.Test.YtimafdiljcglfaaRes
namespace Go.Proofs.Ytimafdiljcglfaa
open Go.RowKit

def ints (l : List Int) : List Value := l.map (Value.int .i64)
def mpv (v o0 o1 o2 o3 o4 o5 o6 o7 : Int) : Value := .agg #[.int .i64 v, .int .i64 o0, .int .i64 o1, .int .i64 o2, .int .i64 o3, .int .i64 o4, .int .i64 o5, .int .i64 o6, .int .i64 o7]
theorem zmap (W : World) : (zeroValue 24).run Try.prog W = .ok (mpv 0 0 0 0 0 0 0 0 0) W := by kernel_rfl
def changeE (v : Int) (M : List Int) (s t : Int) : Int := if okM v M && mayB s t then (if v = 1099511627776 then 50 else 0) else 2
theorem one9 (v o0 o1 o2 o3 o4 o5 o6 o7 : Int) : (#[.int .i64 v, .int .i64 o0, .int .i64 o1, .int .i64 o2, .int .i64 o3, .int .i64 o4, .int .i64 o5, .int .i64 o6, .int .i64 o7] : Array Value).all (·.oneCell') = true :=
  all_oneCell_toArray (one_ints .i64 [v, o0, o1, o2, o3, o4, o5, o6, o7])

set_option maxHeartbeats 1000000 in
theorem change_bad (v o0 o1 o2 o3 o4 o5 o6 o7 s t : Int) (w : World) (h : changeE v [o0, o1, o2, o3, o4, o5, o6, o7] s t ≠ 0) :
    Calls Try.prog 5 #[mpv v o0 o1 o2 o3 o4 o5 o6 o7, .agg #[.int .i64 s, .int .i64 t]] w fun e w' => e = .returned (.tuple #[mpv 0 0 0 0 0 0 0 0 0, .int .i64 (changeE v [o0, o1, o2, o3, o4, o5, o6, o7] s t)]) ∧ Grows w w' := by
  have hz := zmap
  unfold mpv at *
  have A0 := At.new ((w.alloc (.cells #[.int .i64 v, .int .i64 o0, .int .i64 o1, .int .i64 o2, .int .i64 o3, .int .i64 o4, .int .i64 o5, .int .i64 o6, .int .i64 o7] 24)).alloc (.cells #[.int .i64 s, .int .i64 t] 26)) 24 #[.int .i64 0, .int .i64 0, .int .i64 0, .int .i64 0, .int .i64 0, .int .i64 0, .int .i64 0, .int .i64 0, .int .i64 0]
  have B0 := ((At.new (w.alloc (.cells #[.int .i64 v, .int .i64 o0, .int .i64 o1, .int .i64 o2, .int .i64 o3, .int .i64 o4, .int .i64 o5, .int .i64 o6, .int .i64 o7] 24)) 26 #[.int .i64 s, .int .i64 t]).alloc (.cells #[.int .i64 0, .int .i64 0, .int .i64 0, .int .i64 0, .int .i64 0, .int .i64 0, .int .i64 0, .int .i64 0, .int .i64 0] 24))
  have M0 := ((At.new w 24 #[.int .i64 v, .int .i64 o0, .int .i64 o1, .int .i64 o2, .int .i64 o3, .int .i64 o4, .int .i64 o5, .int .i64 o6, .int .i64 o7]).alloc (.cells #[.int .i64 s, .int .i64 t] 26)).alloc (.cells #[.int .i64 0, .int .i64 0, .int .i64 0, .int .i64 0, .int .i64 0, .int .i64 0, .int .i64 0, .int .i64 0, .int .i64 0] 24)
  have G0 := ((((Grows.refl w).alloc (.cells #[.int .i64 v, .int .i64 o0, .int .i64 o1, .int .i64 o2, .int .i64 o3, .int .i64 o4, .int .i64 o5, .int .i64 o6, .int .i64 o7] 24)).alloc (.cells #[.int .i64 s, .int .i64 t] 26)).alloc (.cells #[.int .i64 0, .int .i64 0, .int .i64 0, .int .i64 0, .int .i64 0, .int .i64 0, .int .i64 0, .int .i64 0, .int .i64 0] 24))
  simp only [World.size_alloc] at A0 B0
  have HA0 := Lib.hid A0
  have HB0 := Lib.hid B0
  have HM0 := Lib.hid M0
  clear A0 B0 M0
  cases hok : okM v [o0, o1, o2, o3, o4, o5, o6, o7] with
  | false =>
    have hE : changeE v [o0, o1, o2, o3, o4, o5, o6, o7] s t = 2 := by simp [changeE, hok]
    have hC : checkE v [o0, o1, o2, o3, o4, o5, o6, o7] = 2 := by simp [checkE, hok]
    rw [hE]
    clear h hE hok
    go_enter Try.func5, Try.ntmps5
    go_wp2_with fail
    refine (check_any _ _ _ _ _ _ _ _ _ _).mono ?_
    rw [hC]
    clear hC
    rintro e w1 ⟨rfl, hb1⟩
    have A1 := Lib.hid (HA0.out.grows hb1)
    have B1 := Lib.hid (HB0.out.grows hb1)
    have M1 := Lib.hid (HM0.out.grows hb1)
    have G1 := G0.trans hb1
    go_wp2_with (with_reducible refine wpList_store_mid (op := ⟨none, .store 24 (.tmp 4) (.tmp 15), _, _, _, none⟩) rfl 24 (.tmp 4) (.tmp 15) rfl (w.heap.size + 1 + 1) (0) #[.int .i64 0, .int .i64 0, .int .i64 0, .int .i64 0, .int .i64 0, .int .i64 0, .int .i64 0, .int .i64 0, .int .i64 0] ?s1a ?s1b ?s1c ?s1d ?s1e ?_)
    case s1a => rfl
    case s1b => rfl
    case s1c => exact A1.out.there 0 9 (by simp)
    case s1d => kernel_rfl
    case s1e => exact one9 _ _ _ _ _ _ _ _ _
    refine bodyPost_ret (results_row_tmp Try.results5 _ _ (w.heap.size + 1 + 1) 24 _ _ rfl (At.all (vs := ints [0, 0, 0, 0, 0, 0, 0, 0, 0]) (cs := ints [0, 0, 0, 0, 0, 0, 0, 0, 0]) A1.out rfl) Try.underlying24 rfl (by kernel_rfl)) rfl ⟨rfl, Grows.setCells (by omega) _ _ G1⟩
  | true =>
    have hC : checkE v [o0, o1, o2, o3, o4, o5, o6, o7] = 0 := by simp [checkE, hok]
    cases hmay : mayB s t with
    | false =>
      have hE : changeE v [o0, o1, o2, o3, o4, o5, o6, o7] s t = 2 := by simp [changeE, hmay]
      rw [hE]
      clear h hE hok
      go_enter Try.func5, Try.ntmps5
      go_wp2_with fail
      refine (check_any _ _ _ _ _ _ _ _ _ _).mono ?_
      rw [hC]
      clear hC
      rintro e w1 ⟨rfl, hb1⟩
      have A1 := Lib.hid (HA0.out.grows hb1)
      have B1 := Lib.hid (HB0.out.grows hb1)
      have M1 := Lib.hid (HM0.out.grows hb1)
      have G1 := G0.trans hb1
      have cb := B1.out.cell
      go_wp2_with fail
      refine (may_any _ _ _).mono ?_
      rw [hmay]
      rintro e w2 ⟨rfl, hb2⟩
      have A2 := Lib.hid (A1.out.grows hb2)
      have B2 := Lib.hid (B1.out.grows hb2)
      have M2 := Lib.hid (M1.out.grows hb2)
      have G2 := G1.trans hb2
      clear cb
      go_wp2_with (with_reducible refine wpList_store_mid (op := ⟨none, .store 24 (.tmp 4) (.tmp 15), _, _, _, none⟩) rfl 24 (.tmp 4) (.tmp 15) rfl (w.heap.size + 1 + 1) (0) #[.int .i64 0, .int .i64 0, .int .i64 0, .int .i64 0, .int .i64 0, .int .i64 0, .int .i64 0, .int .i64 0, .int .i64 0] ?s2a ?s2b ?s2c ?s2d ?s2e ?_)
      case s2a => rfl
      case s2b => rfl
      case s2c => exact A2.out.there 0 9 (by simp)
      case s2d => kernel_rfl
      case s2e => exact one9 _ _ _ _ _ _ _ _ _
      refine bodyPost_ret (results_row_tmp Try.results5 _ _ (w.heap.size + 1 + 1) 24 _ _ rfl (At.all (vs := ints [0, 0, 0, 0, 0, 0, 0, 0, 0]) (cs := ints [0, 0, 0, 0, 0, 0, 0, 0, 0]) A2.out rfl) Try.underlying24 rfl (by kernel_rfl)) rfl ⟨rfl, Grows.setCells (by omega) _ _ G2⟩
    | true =>
      have hv : v = 1099511627776 := by
        simp only [changeE, hok, hmay, Bool.and_self, if_true] at h
        split at h
        · assumption
        · exact absurd rfl h
      have hE : changeE v [o0, o1, o2, o3, o4, o5, o6, o7] s t = 50 := by simp only [changeE, hok, hmay, Bool.and_self, if_true]; rw [if_pos hv]
      rw [hE]
      have hv1 : (v == 1099511627776) = true := by simpa using hv
      clear h hE hok hv
      go_enter Try.func5, Try.ntmps5
      go_wp2_with fail
      refine (check_any _ _ _ _ _ _ _ _ _ _).mono ?_
      rw [hC]
      clear hC
      rintro e w1 ⟨rfl, hb1⟩
      have A1 := Lib.hid (HA0.out.grows hb1)
      have B1 := Lib.hid (HB0.out.grows hb1)
      have M1 := Lib.hid (HM0.out.grows hb1)
      have G1 := G0.trans hb1
      have cb := B1.out.cell
      go_wp2_with fail
      refine (may_any _ _ _).mono ?_
      rw [hmay]
      rintro e w2 ⟨rfl, hb2⟩
      have A2 := Lib.hid (A1.out.grows hb2)
      have B2 := Lib.hid (B1.out.grows hb2)
      have M2 := Lib.hid (M1.out.grows hb2)
      have G2 := G1.trans hb2
      clear cb
      have cm := M2.out.cell
      go_wp2_with (with_reducible refine wpList_store_mid (op := ⟨none, .store 24 (.tmp 4) (.tmp 20), _, _, _, none⟩) rfl 24 (.tmp 4) (.tmp 20) rfl (w.heap.size + 1 + 1) (0) #[.int .i64 0, .int .i64 0, .int .i64 0, .int .i64 0, .int .i64 0, .int .i64 0, .int .i64 0, .int .i64 0, .int .i64 0] ?s3a ?s3b ?s3c ?s3d ?s3e ?_)
      case s3a => rfl
      case s3b => rfl
      case s3c => exact A2.out.there 0 9 (by simp)
      case s3d => kernel_rfl
      case s3e => exact one9 _ _ _ _ _ _ _ _ _
      refine bodyPost_ret (results_row_tmp Try.results5 _ _ (w.heap.size + 1 + 1) 24 _ _ rfl (At.all (vs := ints [0, 0, 0, 0, 0, 0, 0, 0, 0]) (cs := ints [0, 0, 0, 0, 0, 0, 0, 0, 0]) A2.out rfl) Try.underlying24 rfl (by kernel_rfl)) rfl ⟨rfl, Grows.setCells (by omega) _ _ G2⟩
set_option maxHeartbeats 1000000 in
theorem change_ok0 (v o0 o1 o2 o3 o4 o5 o6 o7 t : Int) (w : World) (hok : okM v [o0, o1, o2, o3, o4, o5, o6, o7] = true) (hmay : mayB 0 t = true) (hv0 : 0 ≤ v) (hv1 : v < 1099511627776) :
    Calls Try.prog 5 #[mpv v o0 o1 o2 o3 o4 o5 o6 o7, .agg #[.int .i64 0, .int .i64 t]] w fun e w' => e = .returned (.tuple #[mpv (v + 1) t o1 o2 o3 o4 o5 o6 o7, .int .i64 0]) ∧ Grows w w' := by
  have hz := zmap
  unfold mpv at *
  have A0 := At.new ((w.alloc (.cells #[.int .i64 v, .int .i64 o0, .int .i64 o1, .int .i64 o2, .int .i64 o3, .int .i64 o4, .int .i64 o5, .int .i64 o6, .int .i64 o7] 24)).alloc (.cells #[.int .i64 0, .int .i64 t] 26)) 24 #[.int .i64 0, .int .i64 0, .int .i64 0, .int .i64 0, .int .i64 0, .int .i64 0, .int .i64 0, .int .i64 0, .int .i64 0]
  have B0 := ((At.new (w.alloc (.cells #[.int .i64 v, .int .i64 o0, .int .i64 o1, .int .i64 o2, .int .i64 o3, .int .i64 o4, .int .i64 o5, .int .i64 o6, .int .i64 o7] 24)) 26 #[.int .i64 0, .int .i64 t]).alloc (.cells #[.int .i64 0, .int .i64 0, .int .i64 0, .int .i64 0, .int .i64 0, .int .i64 0, .int .i64 0, .int .i64 0, .int .i64 0] 24))
  have M0 := ((At.new w 24 #[.int .i64 v, .int .i64 o0, .int .i64 o1, .int .i64 o2, .int .i64 o3, .int .i64 o4, .int .i64 o5, .int .i64 o6, .int .i64 o7]).alloc (.cells #[.int .i64 0, .int .i64 t] 26)).alloc (.cells #[.int .i64 0, .int .i64 0, .int .i64 0, .int .i64 0, .int .i64 0, .int .i64 0, .int .i64 0, .int .i64 0, .int .i64 0] 24)
  have G0 := ((((Grows.refl w).alloc (.cells #[.int .i64 v, .int .i64 o0, .int .i64 o1, .int .i64 o2, .int .i64 o3, .int .i64 o4, .int .i64 o5, .int .i64 o6, .int .i64 o7] 24)).alloc (.cells #[.int .i64 0, .int .i64 t] 26)).alloc (.cells #[.int .i64 0, .int .i64 0, .int .i64 0, .int .i64 0, .int .i64 0, .int .i64 0, .int .i64 0, .int .i64 0, .int .i64 0] 24))
  simp only [World.size_alloc] at A0 B0
  have HA0 := Lib.hid A0
  have HB0 := Lib.hid B0
  have HM0 := Lib.hid M0
  clear A0 B0 M0
  have hC : checkE v [o0, o1, o2, o3, o4, o5, o6, o7] = 0 := by simp [checkE, hok]
  have hv2 : (v == 1099511627776) = false := by simp; omega
  clear hok
  go_enter Try.func5, Try.ntmps5
  go_wp2_with fail
  refine (check_any _ _ _ _ _ _ _ _ _ _).mono ?_
  rw [hC]
  clear hC
  rintro e w1 ⟨rfl, hb1⟩
  have A1 := Lib.hid (HA0.out.grows hb1)
  have B1 := Lib.hid (HB0.out.grows hb1)
  have M1 := Lib.hid (HM0.out.grows hb1)
  have G1 := G0.trans hb1
  have cb := B1.out.cell
  go_wp2_with fail
  refine (may_any _ _ _).mono ?_
  rw [hmay]
  rintro e w2 ⟨rfl, hb2⟩
  have A2 := Lib.hid (A1.out.grows hb2)
  have B2 := Lib.hid (B1.out.grows hb2)
  have M2 := Lib.hid (M1.out.grows hb2)
  have G2 := G1.trans hb2
  clear cb
  have cm := M2.out.cell
  have fm := M2.out.frozen
  have cb := B2.out.cell
  have A3 := Lib.hid ((A2.out.far (p := ⟨w.heap.size, 1, none⟩) (by simp; omega) (.int .i64 t)).far (p := ⟨w.heap.size, 0, none⟩) (by simp; omega) (.int .i64 (v + 1)))
  go_wp2_with (with_reducible refine wpList_store_mid (op := ⟨none, .store 24 (.tmp 4) (.tmp 31), _, _, _, none⟩) rfl 24 (.tmp 4) (.tmp 31) rfl (w.heap.size + 1 + 1) (0) #[.int .i64 (v + 1), .int .i64 t, .int .i64 o1, .int .i64 o2, .int .i64 o3, .int .i64 o4, .int .i64 o5, .int .i64 o6, .int .i64 o7] ?s4a ?s4b ?s4c ?s4d ?s4e ?_)
  case s4a => rfl
  case s4b => rfl
  case s4c => exact A3.out.there 0 9 (by simp)
  case s4d => kernel_rfl
  case s4e => exact one9 _ _ _ _ _ _ _ _ _
  refine bodyPost_ret (results_row_tmp Try.results5 _ _ (w.heap.size + 1 + 1) 24 _ _ rfl (At.all (vs := ints [(v + 1), t, o1, o2, o3, o4, o5, o6, o7]) (cs := ints [0, 0, 0, 0, 0, 0, 0, 0, 0]) A3.out rfl) Try.underlying24 rfl (by kernel_rfl)) rfl ⟨rfl, Grows.setCells (by omega) _ _ ((G2.setCell (Nat.le_refl _) _).setCell (Nat.le_refl _) _)⟩
set_option maxHeartbeats 1000000 in
theorem change_ok1 (v o0 o1 o2 o3 o4 o5 o6 o7 t : Int) (w : World) (hok : okM v [o0, o1, o2, o3, o4, o5, o6, o7] = true) (hmay : mayB 1 t = true) (hv0 : 0 ≤ v) (hv1 : v < 1099511627776) :
    Calls Try.prog 5 #[mpv v o0 o1 o2 o3 o4 o5 o6 o7, .agg #[.int .i64 1, .int .i64 t]] w fun e w' => e = .returned (.tuple #[mpv (v + 1) o0 t o2 o3 o4 o5 o6 o7, .int .i64 0]) ∧ Grows w w' := by
  have hz := zmap
  unfold mpv at *
  have A0 := At.new ((w.alloc (.cells #[.int .i64 v, .int .i64 o0, .int .i64 o1, .int .i64 o2, .int .i64 o3, .int .i64 o4, .int .i64 o5, .int .i64 o6, .int .i64 o7] 24)).alloc (.cells #[.int .i64 1, .int .i64 t] 26)) 24 #[.int .i64 0, .int .i64 0, .int .i64 0, .int .i64 0, .int .i64 0, .int .i64 0, .int .i64 0, .int .i64 0, .int .i64 0]
  have B0 := ((At.new (w.alloc (.cells #[.int .i64 v, .int .i64 o0, .int .i64 o1, .int .i64 o2, .int .i64 o3, .int .i64 o4, .int .i64 o5, .int .i64 o6, .int .i64 o7] 24)) 26 #[.int .i64 1, .int .i64 t]).alloc (.cells #[.int .i64 0, .int .i64 0, .int .i64 0, .int .i64 0, .int .i64 0, .int .i64 0, .int .i64 0, .int .i64 0, .int .i64 0] 24))
  have M0 := ((At.new w 24 #[.int .i64 v, .int .i64 o0, .int .i64 o1, .int .i64 o2, .int .i64 o3, .int .i64 o4, .int .i64 o5, .int .i64 o6, .int .i64 o7]).alloc (.cells #[.int .i64 1, .int .i64 t] 26)).alloc (.cells #[.int .i64 0, .int .i64 0, .int .i64 0, .int .i64 0, .int .i64 0, .int .i64 0, .int .i64 0, .int .i64 0, .int .i64 0] 24)
  have G0 := ((((Grows.refl w).alloc (.cells #[.int .i64 v, .int .i64 o0, .int .i64 o1, .int .i64 o2, .int .i64 o3, .int .i64 o4, .int .i64 o5, .int .i64 o6, .int .i64 o7] 24)).alloc (.cells #[.int .i64 1, .int .i64 t] 26)).alloc (.cells #[.int .i64 0, .int .i64 0, .int .i64 0, .int .i64 0, .int .i64 0, .int .i64 0, .int .i64 0, .int .i64 0, .int .i64 0] 24))
  simp only [World.size_alloc] at A0 B0
  have HA0 := Lib.hid A0
  have HB0 := Lib.hid B0
  have HM0 := Lib.hid M0
  clear A0 B0 M0
  have hC : checkE v [o0, o1, o2, o3, o4, o5, o6, o7] = 0 := by simp [checkE, hok]
  have hv2 : (v == 1099511627776) = false := by simp; omega
  clear hok
  go_enter Try.func5, Try.ntmps5
  go_wp2_with fail
  refine (check_any _ _ _ _ _ _ _ _ _ _).mono ?_
  rw [hC]
  clear hC
  rintro e w1 ⟨rfl, hb1⟩
  have A1 := Lib.hid (HA0.out.grows hb1)
  have B1 := Lib.hid (HB0.out.grows hb1)
  have M1 := Lib.hid (HM0.out.grows hb1)
  have G1 := G0.trans hb1
  have cb := B1.out.cell
  go_wp2_with fail
  refine (may_any _ _ _).mono ?_
  rw [hmay]
  rintro e w2 ⟨rfl, hb2⟩
  have A2 := Lib.hid (A1.out.grows hb2)
  have B2 := Lib.hid (B1.out.grows hb2)
  have M2 := Lib.hid (M1.out.grows hb2)
  have G2 := G1.trans hb2
  clear cb
  have cm := M2.out.cell
  have fm := M2.out.frozen
  have cb := B2.out.cell
  have A3 := Lib.hid ((A2.out.far (p := ⟨w.heap.size, 2, none⟩) (by simp; omega) (.int .i64 t)).far (p := ⟨w.heap.size, 0, none⟩) (by simp; omega) (.int .i64 (v + 1)))
  go_wp2_with (with_reducible refine wpList_store_mid (op := ⟨none, .store 24 (.tmp 4) (.tmp 31), _, _, _, none⟩) rfl 24 (.tmp 4) (.tmp 31) rfl (w.heap.size + 1 + 1) (0) #[.int .i64 (v + 1), .int .i64 o0, .int .i64 t, .int .i64 o2, .int .i64 o3, .int .i64 o4, .int .i64 o5, .int .i64 o6, .int .i64 o7] ?s5a ?s5b ?s5c ?s5d ?s5e ?_)
  case s5a => rfl
  case s5b => rfl
  case s5c => exact A3.out.there 0 9 (by simp)
  case s5d => kernel_rfl
  case s5e => exact one9 _ _ _ _ _ _ _ _ _
  refine bodyPost_ret (results_row_tmp Try.results5 _ _ (w.heap.size + 1 + 1) 24 _ _ rfl (At.all (vs := ints [(v + 1), o0, t, o2, o3, o4, o5, o6, o7]) (cs := ints [0, 0, 0, 0, 0, 0, 0, 0, 0]) A3.out rfl) Try.underlying24 rfl (by kernel_rfl)) rfl ⟨rfl, Grows.setCells (by omega) _ _ ((G2.setCell (Nat.le_refl _) _).setCell (Nat.le_refl _) _)⟩
set_option maxHeartbeats 1000000 in
theorem change_ok2 (v o0 o1 o2 o3 o4 o5 o6 o7 t : Int) (w : World) (hok : okM v [o0, o1, o2, o3, o4, o5, o6, o7] = true) (hmay : mayB 2 t = true) (hv0 : 0 ≤ v) (hv1 : v < 1099511627776) :
    Calls Try.prog 5 #[mpv v o0 o1 o2 o3 o4 o5 o6 o7, .agg #[.int .i64 2, .int .i64 t]] w fun e w' => e = .returned (.tuple #[mpv (v + 1) o0 o1 t o3 o4 o5 o6 o7, .int .i64 0]) ∧ Grows w w' := by
  have hz := zmap
  unfold mpv at *
  have A0 := At.new ((w.alloc (.cells #[.int .i64 v, .int .i64 o0, .int .i64 o1, .int .i64 o2, .int .i64 o3, .int .i64 o4, .int .i64 o5, .int .i64 o6, .int .i64 o7] 24)).alloc (.cells #[.int .i64 2, .int .i64 t] 26)) 24 #[.int .i64 0, .int .i64 0, .int .i64 0, .int .i64 0, .int .i64 0, .int .i64 0, .int .i64 0, .int .i64 0, .int .i64 0]
  have B0 := ((At.new (w.alloc (.cells #[.int .i64 v, .int .i64 o0, .int .i64 o1, .int .i64 o2, .int .i64 o3, .int .i64 o4, .int .i64 o5, .int .i64 o6, .int .i64 o7] 24)) 26 #[.int .i64 2, .int .i64 t]).alloc (.cells #[.int .i64 0, .int .i64 0, .int .i64 0, .int .i64 0, .int .i64 0, .int .i64 0, .int .i64 0, .int .i64 0, .int .i64 0] 24))
  have M0 := ((At.new w 24 #[.int .i64 v, .int .i64 o0, .int .i64 o1, .int .i64 o2, .int .i64 o3, .int .i64 o4, .int .i64 o5, .int .i64 o6, .int .i64 o7]).alloc (.cells #[.int .i64 2, .int .i64 t] 26)).alloc (.cells #[.int .i64 0, .int .i64 0, .int .i64 0, .int .i64 0, .int .i64 0, .int .i64 0, .int .i64 0, .int .i64 0, .int .i64 0] 24)
  have G0 := ((((Grows.refl w).alloc (.cells #[.int .i64 v, .int .i64 o0, .int .i64 o1, .int .i64 o2, .int .i64 o3, .int .i64 o4, .int .i64 o5, .int .i64 o6, .int .i64 o7] 24)).alloc (.cells #[.int .i64 2, .int .i64 t] 26)).alloc (.cells #[.int .i64 0, .int .i64 0, .int .i64 0, .int .i64 0, .int .i64 0, .int .i64 0, .int .i64 0, .int .i64 0, .int .i64 0] 24))
  simp only [World.size_alloc] at A0 B0
  have HA0 := Lib.hid A0
  have HB0 := Lib.hid B0
  have HM0 := Lib.hid M0
  clear A0 B0 M0
  have hC : checkE v [o0, o1, o2, o3, o4, o5, o6, o7] = 0 := by simp [checkE, hok]
  have hv2 : (v == 1099511627776) = false := by simp; omega
  clear hok
  go_enter Try.func5, Try.ntmps5
  go_wp2_with fail
  refine (check_any _ _ _ _ _ _ _ _ _ _).mono ?_
  rw [hC]
  clear hC
  rintro e w1 ⟨rfl, hb1⟩
  have A1 := Lib.hid (HA0.out.grows hb1)
  have B1 := Lib.hid (HB0.out.grows hb1)
  have M1 := Lib.hid (HM0.out.grows hb1)
  have G1 := G0.trans hb1
  have cb := B1.out.cell
  go_wp2_with fail
  refine (may_any _ _ _).mono ?_
  rw [hmay]
  rintro e w2 ⟨rfl, hb2⟩
  have A2 := Lib.hid (A1.out.grows hb2)
  have B2 := Lib.hid (B1.out.grows hb2)
  have M2 := Lib.hid (M1.out.grows hb2)
  have G2 := G1.trans hb2
  clear cb
  have cm := M2.out.cell
  have fm := M2.out.frozen
  have cb := B2.out.cell
  have A3 := Lib.hid ((A2.out.far (p := ⟨w.heap.size, 3, none⟩) (by simp; omega) (.int .i64 t)).far (p := ⟨w.heap.size, 0, none⟩) (by simp; omega) (.int .i64 (v + 1)))
  go_wp2_with (with_reducible refine wpList_store_mid (op := ⟨none, .store 24 (.tmp 4) (.tmp 31), _, _, _, none⟩) rfl 24 (.tmp 4) (.tmp 31) rfl (w.heap.size + 1 + 1) (0) #[.int .i64 (v + 1), .int .i64 o0, .int .i64 o1, .int .i64 t, .int .i64 o3, .int .i64 o4, .int .i64 o5, .int .i64 o6, .int .i64 o7] ?s6a ?s6b ?s6c ?s6d ?s6e ?_)
  case s6a => rfl
  case s6b => rfl
  case s6c => exact A3.out.there 0 9 (by simp)
  case s6d => kernel_rfl
  case s6e => exact one9 _ _ _ _ _ _ _ _ _
  refine bodyPost_ret (results_row_tmp Try.results5 _ _ (w.heap.size + 1 + 1) 24 _ _ rfl (At.all (vs := ints [(v + 1), o0, o1, t, o3, o4, o5, o6, o7]) (cs := ints [0, 0, 0, 0, 0, 0, 0, 0, 0]) A3.out rfl) Try.underlying24 rfl (by kernel_rfl)) rfl ⟨rfl, Grows.setCells (by omega) _ _ ((G2.setCell (Nat.le_refl _) _).setCell (Nat.le_refl _) _)⟩
set_option maxHeartbeats 1000000 in
theorem change_ok3 (v o0 o1 o2 o3 o4 o5 o6 o7 t : Int) (w : World) (hok : okM v [o0, o1, o2, o3, o4, o5, o6, o7] = true) (hmay : mayB 3 t = true) (hv0 : 0 ≤ v) (hv1 : v < 1099511627776) :
    Calls Try.prog 5 #[mpv v o0 o1 o2 o3 o4 o5 o6 o7, .agg #[.int .i64 3, .int .i64 t]] w fun e w' => e = .returned (.tuple #[mpv (v + 1) o0 o1 o2 t o4 o5 o6 o7, .int .i64 0]) ∧ Grows w w' := by
  have hz := zmap
  unfold mpv at *
  have A0 := At.new ((w.alloc (.cells #[.int .i64 v, .int .i64 o0, .int .i64 o1, .int .i64 o2, .int .i64 o3, .int .i64 o4, .int .i64 o5, .int .i64 o6, .int .i64 o7] 24)).alloc (.cells #[.int .i64 3, .int .i64 t] 26)) 24 #[.int .i64 0, .int .i64 0, .int .i64 0, .int .i64 0, .int .i64 0, .int .i64 0, .int .i64 0, .int .i64 0, .int .i64 0]
  have B0 := ((At.new (w.alloc (.cells #[.int .i64 v, .int .i64 o0, .int .i64 o1, .int .i64 o2, .int .i64 o3, .int .i64 o4, .int .i64 o5, .int .i64 o6, .int .i64 o7] 24)) 26 #[.int .i64 3, .int .i64 t]).alloc (.cells #[.int .i64 0, .int .i64 0, .int .i64 0, .int .i64 0, .int .i64 0, .int .i64 0, .int .i64 0, .int .i64 0, .int .i64 0] 24))
  have M0 := ((At.new w 24 #[.int .i64 v, .int .i64 o0, .int .i64 o1, .int .i64 o2, .int .i64 o3, .int .i64 o4, .int .i64 o5, .int .i64 o6, .int .i64 o7]).alloc (.cells #[.int .i64 3, .int .i64 t] 26)).alloc (.cells #[.int .i64 0, .int .i64 0, .int .i64 0, .int .i64 0, .int .i64 0, .int .i64 0, .int .i64 0, .int .i64 0, .int .i64 0] 24)
  have G0 := ((((Grows.refl w).alloc (.cells #[.int .i64 v, .int .i64 o0, .int .i64 o1, .int .i64 o2, .int .i64 o3, .int .i64 o4, .int .i64 o5, .int .i64 o6, .int .i64 o7] 24)).alloc (.cells #[.int .i64 3, .int .i64 t] 26)).alloc (.cells #[.int .i64 0, .int .i64 0, .int .i64 0, .int .i64 0, .int .i64 0, .int .i64 0, .int .i64 0, .int .i64 0, .int .i64 0] 24))
  simp only [World.size_alloc] at A0 B0
  have HA0 := Lib.hid A0
  have HB0 := Lib.hid B0
  have HM0 := Lib.hid M0
  clear A0 B0 M0
  have hC : checkE v [o0, o1, o2, o3, o4, o5, o6, o7] = 0 := by simp [checkE, hok]
  have hv2 : (v == 1099511627776) = false := by simp; omega
  clear hok
  go_enter Try.func5, Try.ntmps5
  go_wp2_with fail
  refine (check_any _ _ _ _ _ _ _ _ _ _).mono ?_
  rw [hC]
  clear hC
  rintro e w1 ⟨rfl, hb1⟩
  have A1 := Lib.hid (HA0.out.grows hb1)
  have B1 := Lib.hid (HB0.out.grows hb1)
  have M1 := Lib.hid (HM0.out.grows hb1)
  have G1 := G0.trans hb1
  have cb := B1.out.cell
  go_wp2_with fail
  refine (may_any _ _ _).mono ?_
  rw [hmay]
  rintro e w2 ⟨rfl, hb2⟩
  have A2 := Lib.hid (A1.out.grows hb2)
  have B2 := Lib.hid (B1.out.grows hb2)
  have M2 := Lib.hid (M1.out.grows hb2)
  have G2 := G1.trans hb2
  clear cb
  have cm := M2.out.cell
  have fm := M2.out.frozen
  have cb := B2.out.cell
  have A3 := Lib.hid ((A2.out.far (p := ⟨w.heap.size, 4, none⟩) (by simp; omega) (.int .i64 t)).far (p := ⟨w.heap.size, 0, none⟩) (by simp; omega) (.int .i64 (v + 1)))
  go_wp2_with (with_reducible refine wpList_store_mid (op := ⟨none, .store 24 (.tmp 4) (.tmp 31), _, _, _, none⟩) rfl 24 (.tmp 4) (.tmp 31) rfl (w.heap.size + 1 + 1) (0) #[.int .i64 (v + 1), .int .i64 o0, .int .i64 o1, .int .i64 o2, .int .i64 t, .int .i64 o4, .int .i64 o5, .int .i64 o6, .int .i64 o7] ?s7a ?s7b ?s7c ?s7d ?s7e ?_)
  case s7a => rfl
  case s7b => rfl
  case s7c => exact A3.out.there 0 9 (by simp)
  case s7d => kernel_rfl
  case s7e => exact one9 _ _ _ _ _ _ _ _ _
  refine bodyPost_ret (results_row_tmp Try.results5 _ _ (w.heap.size + 1 + 1) 24 _ _ rfl (At.all (vs := ints [(v + 1), o0, o1, o2, t, o4, o5, o6, o7]) (cs := ints [0, 0, 0, 0, 0, 0, 0, 0, 0]) A3.out rfl) Try.underlying24 rfl (by kernel_rfl)) rfl ⟨rfl, Grows.setCells (by omega) _ _ ((G2.setCell (Nat.le_refl _) _).setCell (Nat.le_refl _) _)⟩
set_option maxHeartbeats 1000000 in
theorem change_ok4 (v o0 o1 o2 o3 o4 o5 o6 o7 t : Int) (w : World) (hok : okM v [o0, o1, o2, o3, o4, o5, o6, o7] = true) (hmay : mayB 4 t = true) (hv0 : 0 ≤ v) (hv1 : v < 1099511627776) :
    Calls Try.prog 5 #[mpv v o0 o1 o2 o3 o4 o5 o6 o7, .agg #[.int .i64 4, .int .i64 t]] w fun e w' => e = .returned (.tuple #[mpv (v + 1) o0 o1 o2 o3 t o5 o6 o7, .int .i64 0]) ∧ Grows w w' := by
  have hz := zmap
  unfold mpv at *
  have A0 := At.new ((w.alloc (.cells #[.int .i64 v, .int .i64 o0, .int .i64 o1, .int .i64 o2, .int .i64 o3, .int .i64 o4, .int .i64 o5, .int .i64 o6, .int .i64 o7] 24)).alloc (.cells #[.int .i64 4, .int .i64 t] 26)) 24 #[.int .i64 0, .int .i64 0, .int .i64 0, .int .i64 0, .int .i64 0, .int .i64 0, .int .i64 0, .int .i64 0, .int .i64 0]
  have B0 := ((At.new (w.alloc (.cells #[.int .i64 v, .int .i64 o0, .int .i64 o1, .int .i64 o2, .int .i64 o3, .int .i64 o4, .int .i64 o5, .int .i64 o6, .int .i64 o7] 24)) 26 #[.int .i64 4, .int .i64 t]).alloc (.cells #[.int .i64 0, .int .i64 0, .int .i64 0, .int .i64 0, .int .i64 0, .int .i64 0, .int .i64 0, .int .i64 0, .int .i64 0] 24))
  have M0 := ((At.new w 24 #[.int .i64 v, .int .i64 o0, .int .i64 o1, .int .i64 o2, .int .i64 o3, .int .i64 o4, .int .i64 o5, .int .i64 o6, .int .i64 o7]).alloc (.cells #[.int .i64 4, .int .i64 t] 26)).alloc (.cells #[.int .i64 0, .int .i64 0, .int .i64 0, .int .i64 0, .int .i64 0, .int .i64 0, .int .i64 0, .int .i64 0, .int .i64 0] 24)
  have G0 := ((((Grows.refl w).alloc (.cells #[.int .i64 v, .int .i64 o0, .int .i64 o1, .int .i64 o2, .int .i64 o3, .int .i64 o4, .int .i64 o5, .int .i64 o6, .int .i64 o7] 24)).alloc (.cells #[.int .i64 4, .int .i64 t] 26)).alloc (.cells #[.int .i64 0, .int .i64 0, .int .i64 0, .int .i64 0, .int .i64 0, .int .i64 0, .int .i64 0, .int .i64 0, .int .i64 0] 24))
  simp only [World.size_alloc] at A0 B0
  have HA0 := Lib.hid A0
  have HB0 := Lib.hid B0
  have HM0 := Lib.hid M0
  clear A0 B0 M0
  have hC : checkE v [o0, o1, o2, o3, o4, o5, o6, o7] = 0 := by simp [checkE, hok]
  have hv2 : (v == 1099511627776) = false := by simp; omega
  clear hok
  go_enter Try.func5, Try.ntmps5
  go_wp2_with fail
  refine (check_any _ _ _ _ _ _ _ _ _ _).mono ?_
  rw [hC]
  clear hC
  rintro e w1 ⟨rfl, hb1⟩
  have A1 := Lib.hid (HA0.out.grows hb1)
  have B1 := Lib.hid (HB0.out.grows hb1)
  have M1 := Lib.hid (HM0.out.grows hb1)
  have G1 := G0.trans hb1
  have cb := B1.out.cell
  go_wp2_with fail
  refine (may_any _ _ _).mono ?_
  rw [hmay]
  rintro e w2 ⟨rfl, hb2⟩
  have A2 := Lib.hid (A1.out.grows hb2)
  have B2 := Lib.hid (B1.out.grows hb2)
  have M2 := Lib.hid (M1.out.grows hb2)
  have G2 := G1.trans hb2
  clear cb
  have cm := M2.out.cell
  have fm := M2.out.frozen
  have cb := B2.out.cell
  have A3 := Lib.hid ((A2.out.far (p := ⟨w.heap.size, 5, none⟩) (by simp; omega) (.int .i64 t)).far (p := ⟨w.heap.size, 0, none⟩) (by simp; omega) (.int .i64 (v + 1)))
  go_wp2_with (with_reducible refine wpList_store_mid (op := ⟨none, .store 24 (.tmp 4) (.tmp 31), _, _, _, none⟩) rfl 24 (.tmp 4) (.tmp 31) rfl (w.heap.size + 1 + 1) (0) #[.int .i64 (v + 1), .int .i64 o0, .int .i64 o1, .int .i64 o2, .int .i64 o3, .int .i64 t, .int .i64 o5, .int .i64 o6, .int .i64 o7] ?s8a ?s8b ?s8c ?s8d ?s8e ?_)
  case s8a => rfl
  case s8b => rfl
  case s8c => exact A3.out.there 0 9 (by simp)
  case s8d => kernel_rfl
  case s8e => exact one9 _ _ _ _ _ _ _ _ _
  refine bodyPost_ret (results_row_tmp Try.results5 _ _ (w.heap.size + 1 + 1) 24 _ _ rfl (At.all (vs := ints [(v + 1), o0, o1, o2, o3, t, o5, o6, o7]) (cs := ints [0, 0, 0, 0, 0, 0, 0, 0, 0]) A3.out rfl) Try.underlying24 rfl (by kernel_rfl)) rfl ⟨rfl, Grows.setCells (by omega) _ _ ((G2.setCell (Nat.le_refl _) _).setCell (Nat.le_refl _) _)⟩
set_option maxHeartbeats 1000000 in
theorem change_ok5 (v o0 o1 o2 o3 o4 o5 o6 o7 t : Int) (w : World) (hok : okM v [o0, o1, o2, o3, o4, o5, o6, o7] = true) (hmay : mayB 5 t = true) (hv0 : 0 ≤ v) (hv1 : v < 1099511627776) :
    Calls Try.prog 5 #[mpv v o0 o1 o2 o3 o4 o5 o6 o7, .agg #[.int .i64 5, .int .i64 t]] w fun e w' => e = .returned (.tuple #[mpv (v + 1) o0 o1 o2 o3 o4 t o6 o7, .int .i64 0]) ∧ Grows w w' := by
  have hz := zmap
  unfold mpv at *
  have A0 := At.new ((w.alloc (.cells #[.int .i64 v, .int .i64 o0, .int .i64 o1, .int .i64 o2, .int .i64 o3, .int .i64 o4, .int .i64 o5, .int .i64 o6, .int .i64 o7] 24)).alloc (.cells #[.int .i64 5, .int .i64 t] 26)) 24 #[.int .i64 0, .int .i64 0, .int .i64 0, .int .i64 0, .int .i64 0, .int .i64 0, .int .i64 0, .int .i64 0, .int .i64 0]
  have B0 := ((At.new (w.alloc (.cells #[.int .i64 v, .int .i64 o0, .int .i64 o1, .int .i64 o2, .int .i64 o3, .int .i64 o4, .int .i64 o5, .int .i64 o6, .int .i64 o7] 24)) 26 #[.int .i64 5, .int .i64 t]).alloc (.cells #[.int .i64 0, .int .i64 0, .int .i64 0, .int .i64 0, .int .i64 0, .int .i64 0, .int .i64 0, .int .i64 0, .int .i64 0] 24))
  have M0 := ((At.new w 24 #[.int .i64 v, .int .i64 o0, .int .i64 o1, .int .i64 o2, .int .i64 o3, .int .i64 o4, .int .i64 o5, .int .i64 o6, .int .i64 o7]).alloc (.cells #[.int .i64 5, .int .i64 t] 26)).alloc (.cells #[.int .i64 0, .int .i64 0, .int .i64 0, .int .i64 0, .int .i64 0, .int .i64 0, .int .i64 0, .int .i64 0, .int .i64 0] 24)
  have G0 := ((((Grows.refl w).alloc (.cells #[.int .i64 v, .int .i64 o0, .int .i64 o1, .int .i64 o2, .int .i64 o3, .int .i64 o4, .int .i64 o5, .int .i64 o6, .int .i64 o7] 24)).alloc (.cells #[.int .i64 5, .int .i64 t] 26)).alloc (.cells #[.int .i64 0, .int .i64 0, .int .i64 0, .int .i64 0, .int .i64 0, .int .i64 0, .int .i64 0, .int .i64 0, .int .i64 0] 24))
  simp only [World.size_alloc] at A0 B0
  have HA0 := Lib.hid A0
  have HB0 := Lib.hid B0
  have HM0 := Lib.hid M0
  clear A0 B0 M0
  have hC : checkE v [o0, o1, o2, o3, o4, o5, o6, o7] = 0 := by simp [checkE, hok]
  have hv2 : (v == 1099511627776) = false := by simp; omega
  clear hok
  go_enter Try.func5, Try.ntmps5
  go_wp2_with fail
  refine (check_any _ _ _ _ _ _ _ _ _ _).mono ?_
  rw [hC]
  clear hC
  rintro e w1 ⟨rfl, hb1⟩
  have A1 := Lib.hid (HA0.out.grows hb1)
  have B1 := Lib.hid (HB0.out.grows hb1)
  have M1 := Lib.hid (HM0.out.grows hb1)
  have G1 := G0.trans hb1
  have cb := B1.out.cell
  go_wp2_with fail
  refine (may_any _ _ _).mono ?_
  rw [hmay]
  rintro e w2 ⟨rfl, hb2⟩
  have A2 := Lib.hid (A1.out.grows hb2)
  have B2 := Lib.hid (B1.out.grows hb2)
  have M2 := Lib.hid (M1.out.grows hb2)
  have G2 := G1.trans hb2
  clear cb
  have cm := M2.out.cell
  have fm := M2.out.frozen
  have cb := B2.out.cell
  have A3 := Lib.hid ((A2.out.far (p := ⟨w.heap.size, 6, none⟩) (by simp; omega) (.int .i64 t)).far (p := ⟨w.heap.size, 0, none⟩) (by simp; omega) (.int .i64 (v + 1)))
  go_wp2_with (with_reducible refine wpList_store_mid (op := ⟨none, .store 24 (.tmp 4) (.tmp 31), _, _, _, none⟩) rfl 24 (.tmp 4) (.tmp 31) rfl (w.heap.size + 1 + 1) (0) #[.int .i64 (v + 1), .int .i64 o0, .int .i64 o1, .int .i64 o2, .int .i64 o3, .int .i64 o4, .int .i64 t, .int .i64 o6, .int .i64 o7] ?s9a ?s9b ?s9c ?s9d ?s9e ?_)
  case s9a => rfl
  case s9b => rfl
  case s9c => exact A3.out.there 0 9 (by simp)
  case s9d => kernel_rfl
  case s9e => exact one9 _ _ _ _ _ _ _ _ _
  refine bodyPost_ret (results_row_tmp Try.results5 _ _ (w.heap.size + 1 + 1) 24 _ _ rfl (At.all (vs := ints [(v + 1), o0, o1, o2, o3, o4, t, o6, o7]) (cs := ints [0, 0, 0, 0, 0, 0, 0, 0, 0]) A3.out rfl) Try.underlying24 rfl (by kernel_rfl)) rfl ⟨rfl, Grows.setCells (by omega) _ _ ((G2.setCell (Nat.le_refl _) _).setCell (Nat.le_refl _) _)⟩
set_option maxHeartbeats 1000000 in
theorem change_ok6 (v o0 o1 o2 o3 o4 o5 o6 o7 t : Int) (w : World) (hok : okM v [o0, o1, o2, o3, o4, o5, o6, o7] = true) (hmay : mayB 6 t = true) (hv0 : 0 ≤ v) (hv1 : v < 1099511627776) :
    Calls Try.prog 5 #[mpv v o0 o1 o2 o3 o4 o5 o6 o7, .agg #[.int .i64 6, .int .i64 t]] w fun e w' => e = .returned (.tuple #[mpv (v + 1) o0 o1 o2 o3 o4 o5 t o7, .int .i64 0]) ∧ Grows w w' := by
  have hz := zmap
  unfold mpv at *
  have A0 := At.new ((w.alloc (.cells #[.int .i64 v, .int .i64 o0, .int .i64 o1, .int .i64 o2, .int .i64 o3, .int .i64 o4, .int .i64 o5, .int .i64 o6, .int .i64 o7] 24)).alloc (.cells #[.int .i64 6, .int .i64 t] 26)) 24 #[.int .i64 0, .int .i64 0, .int .i64 0, .int .i64 0, .int .i64 0, .int .i64 0, .int .i64 0, .int .i64 0, .int .i64 0]
  have B0 := ((At.new (w.alloc (.cells #[.int .i64 v, .int .i64 o0, .int .i64 o1, .int .i64 o2, .int .i64 o3, .int .i64 o4, .int .i64 o5, .int .i64 o6, .int .i64 o7] 24)) 26 #[.int .i64 6, .int .i64 t]).alloc (.cells #[.int .i64 0, .int .i64 0, .int .i64 0, .int .i64 0, .int .i64 0, .int .i64 0, .int .i64 0, .int .i64 0, .int .i64 0] 24))
  have M0 := ((At.new w 24 #[.int .i64 v, .int .i64 o0, .int .i64 o1, .int .i64 o2, .int .i64 o3, .int .i64 o4, .int .i64 o5, .int .i64 o6, .int .i64 o7]).alloc (.cells #[.int .i64 6, .int .i64 t] 26)).alloc (.cells #[.int .i64 0, .int .i64 0, .int .i64 0, .int .i64 0, .int .i64 0, .int .i64 0, .int .i64 0, .int .i64 0, .int .i64 0] 24)
  have G0 := ((((Grows.refl w).alloc (.cells #[.int .i64 v, .int .i64 o0, .int .i64 o1, .int .i64 o2, .int .i64 o3, .int .i64 o4, .int .i64 o5, .int .i64 o6, .int .i64 o7] 24)).alloc (.cells #[.int .i64 6, .int .i64 t] 26)).alloc (.cells #[.int .i64 0, .int .i64 0, .int .i64 0, .int .i64 0, .int .i64 0, .int .i64 0, .int .i64 0, .int .i64 0, .int .i64 0] 24))
  simp only [World.size_alloc] at A0 B0
  have HA0 := Lib.hid A0
  have HB0 := Lib.hid B0
  have HM0 := Lib.hid M0
  clear A0 B0 M0
  have hC : checkE v [o0, o1, o2, o3, o4, o5, o6, o7] = 0 := by simp [checkE, hok]
  have hv2 : (v == 1099511627776) = false := by simp; omega
  clear hok
  go_enter Try.func5, Try.ntmps5
  go_wp2_with fail
  refine (check_any _ _ _ _ _ _ _ _ _ _).mono ?_
  rw [hC]
  clear hC
  rintro e w1 ⟨rfl, hb1⟩
  have A1 := Lib.hid (HA0.out.grows hb1)
  have B1 := Lib.hid (HB0.out.grows hb1)
  have M1 := Lib.hid (HM0.out.grows hb1)
  have G1 := G0.trans hb1
  have cb := B1.out.cell
  go_wp2_with fail
  refine (may_any _ _ _).mono ?_
  rw [hmay]
  rintro e w2 ⟨rfl, hb2⟩
  have A2 := Lib.hid (A1.out.grows hb2)
  have B2 := Lib.hid (B1.out.grows hb2)
  have M2 := Lib.hid (M1.out.grows hb2)
  have G2 := G1.trans hb2
  clear cb
  have cm := M2.out.cell
  have fm := M2.out.frozen
  have cb := B2.out.cell
  have A3 := Lib.hid ((A2.out.far (p := ⟨w.heap.size, 7, none⟩) (by simp; omega) (.int .i64 t)).far (p := ⟨w.heap.size, 0, none⟩) (by simp; omega) (.int .i64 (v + 1)))
  go_wp2_with (with_reducible refine wpList_store_mid (op := ⟨none, .store 24 (.tmp 4) (.tmp 31), _, _, _, none⟩) rfl 24 (.tmp 4) (.tmp 31) rfl (w.heap.size + 1 + 1) (0) #[.int .i64 (v + 1), .int .i64 o0, .int .i64 o1, .int .i64 o2, .int .i64 o3, .int .i64 o4, .int .i64 o5, .int .i64 t, .int .i64 o7] ?s10a ?s10b ?s10c ?s10d ?s10e ?_)
  case s10a => rfl
  case s10b => rfl
  case s10c => exact A3.out.there 0 9 (by simp)
  case s10d => kernel_rfl
  case s10e => exact one9 _ _ _ _ _ _ _ _ _
  refine bodyPost_ret (results_row_tmp Try.results5 _ _ (w.heap.size + 1 + 1) 24 _ _ rfl (At.all (vs := ints [(v + 1), o0, o1, o2, o3, o4, o5, t, o7]) (cs := ints [0, 0, 0, 0, 0, 0, 0, 0, 0]) A3.out rfl) Try.underlying24 rfl (by kernel_rfl)) rfl ⟨rfl, Grows.setCells (by omega) _ _ ((G2.setCell (Nat.le_refl _) _).setCell (Nat.le_refl _) _)⟩
set_option maxHeartbeats 1000000 in
theorem change_ok7 (v o0 o1 o2 o3 o4 o5 o6 o7 t : Int) (w : World) (hok : okM v [o0, o1, o2, o3, o4, o5, o6, o7] = true) (hmay : mayB 7 t = true) (hv0 : 0 ≤ v) (hv1 : v < 1099511627776) :
    Calls Try.prog 5 #[mpv v o0 o1 o2 o3 o4 o5 o6 o7, .agg #[.int .i64 7, .int .i64 t]] w fun e w' => e = .returned (.tuple #[mpv (v + 1) o0 o1 o2 o3 o4 o5 o6 t, .int .i64 0]) ∧ Grows w w' := by
  have hz := zmap
  unfold mpv at *
  have A0 := At.new ((w.alloc (.cells #[.int .i64 v, .int .i64 o0, .int .i64 o1, .int .i64 o2, .int .i64 o3, .int .i64 o4, .int .i64 o5, .int .i64 o6, .int .i64 o7] 24)).alloc (.cells #[.int .i64 7, .int .i64 t] 26)) 24 #[.int .i64 0, .int .i64 0, .int .i64 0, .int .i64 0, .int .i64 0, .int .i64 0, .int .i64 0, .int .i64 0, .int .i64 0]
  have B0 := ((At.new (w.alloc (.cells #[.int .i64 v, .int .i64 o0, .int .i64 o1, .int .i64 o2, .int .i64 o3, .int .i64 o4, .int .i64 o5, .int .i64 o6, .int .i64 o7] 24)) 26 #[.int .i64 7, .int .i64 t]).alloc (.cells #[.int .i64 0, .int .i64 0, .int .i64 0, .int .i64 0, .int .i64 0, .int .i64 0, .int .i64 0, .int .i64 0, .int .i64 0] 24))
  have M0 := ((At.new w 24 #[.int .i64 v, .int .i64 o0, .int .i64 o1, .int .i64 o2, .int .i64 o3, .int .i64 o4, .int .i64 o5, .int .i64 o6, .int .i64 o7]).alloc (.cells #[.int .i64 7, .int .i64 t] 26)).alloc (.cells #[.int .i64 0, .int .i64 0, .int .i64 0, .int .i64 0, .int .i64 0, .int .i64 0, .int .i64 0, .int .i64 0, .int .i64 0] 24)
  have G0 := ((((Grows.refl w).alloc (.cells #[.int .i64 v, .int .i64 o0, .int .i64 o1, .int .i64 o2, .int .i64 o3, .int .i64 o4, .int .i64 o5, .int .i64 o6, .int .i64 o7] 24)).alloc (.cells #[.int .i64 7, .int .i64 t] 26)).alloc (.cells #[.int .i64 0, .int .i64 0, .int .i64 0, .int .i64 0, .int .i64 0, .int .i64 0, .int .i64 0, .int .i64 0, .int .i64 0] 24))
  simp only [World.size_alloc] at A0 B0
  have HA0 := Lib.hid A0
  have HB0 := Lib.hid B0
  have HM0 := Lib.hid M0
  clear A0 B0 M0
  have hC : checkE v [o0, o1, o2, o3, o4, o5, o6, o7] = 0 := by simp [checkE, hok]
  have hv2 : (v == 1099511627776) = false := by simp; omega
  clear hok
  go_enter Try.func5, Try.ntmps5
  go_wp2_with fail
  refine (check_any _ _ _ _ _ _ _ _ _ _).mono ?_
  rw [hC]
  clear hC
  rintro e w1 ⟨rfl, hb1⟩
  have A1 := Lib.hid (HA0.out.grows hb1)
  have B1 := Lib.hid (HB0.out.grows hb1)
  have M1 := Lib.hid (HM0.out.grows hb1)
  have G1 := G0.trans hb1
  have cb := B1.out.cell
  go_wp2_with fail
  refine (may_any _ _ _).mono ?_
  rw [hmay]
  rintro e w2 ⟨rfl, hb2⟩
  have A2 := Lib.hid (A1.out.grows hb2)
  have B2 := Lib.hid (B1.out.grows hb2)
  have M2 := Lib.hid (M1.out.grows hb2)
  have G2 := G1.trans hb2
  clear cb
  have cm := M2.out.cell
  have fm := M2.out.frozen
  have cb := B2.out.cell
  have A3 := Lib.hid ((A2.out.far (p := ⟨w.heap.size, 8, none⟩) (by simp; omega) (.int .i64 t)).far (p := ⟨w.heap.size, 0, none⟩) (by simp; omega) (.int .i64 (v + 1)))
  go_wp2_with (with_reducible refine wpList_store_mid (op := ⟨none, .store 24 (.tmp 4) (.tmp 31), _, _, _, none⟩) rfl 24 (.tmp 4) (.tmp 31) rfl (w.heap.size + 1 + 1) (0) #[.int .i64 (v + 1), .int .i64 o0, .int .i64 o1, .int .i64 o2, .int .i64 o3, .int .i64 o4, .int .i64 o5, .int .i64 o6, .int .i64 t] ?s11a ?s11b ?s11c ?s11d ?s11e ?_)
  case s11a => rfl
  case s11b => rfl
  case s11c => exact A3.out.there 0 9 (by simp)
  case s11d => kernel_rfl
  case s11e => exact one9 _ _ _ _ _ _ _ _ _
  refine bodyPost_ret (results_row_tmp Try.results5 _ _ (w.heap.size + 1 + 1) 24 _ _ rfl (At.all (vs := ints [(v + 1), o0, o1, o2, o3, o4, o5, o6, t]) (cs := ints [0, 0, 0, 0, 0, 0, 0, 0, 0]) A3.out rfl) Try.underlying24 rfl (by kernel_rfl)) rfl ⟨rfl, Grows.setCells (by omega) _ _ ((G2.setCell (Nat.le_refl _) _).setCell (Nat.le_refl _) _)⟩

/-- What Change hands back where it is done. -/
def ChangeOk (w : World) (v : Int) (M : List Int) (s : Nat) (t : Int) (e : Ending) (w' : World) : Prop :=
  ∃ p0 p1 p2 p3 p4 p5 p6 p7 : Int, e = .returned (.tuple #[mpv (v + 1) p0 p1 p2 p3 p4 p5 p6 p7, .int .i64 0]) ∧ [p0, p1, p2, p3, p4, p5, p6, p7] = M.set s t ∧ Grows w w'
theorem changeE_z {v : Int} {M : List Int} {s t : Int} (h : changeE v M s t = 0) : okM v M = true ∧ mayB s t = true ∧ v ≠ 1099511627776 := by
  unfold changeE at h
  cases h1 : okM v M <;> cases h2 : mayB s t <;> rw [h1, h2] at h <;> simp at h ⊢
  exact h
theorem mayB_bd {s t : Int} (h : mayB s t = true) : 0 ≤ s ∧ s ≤ 7 ∧ 1 ≤ t ∧ t ≤ 4 := by simp [mayB, withinB] at h; omega
theorem okM_bd {v : Int} {M : List Int} (h : okM v M = true) : 0 ≤ v ∧ v ≤ 1099511627776 ∧ ∀ s ∈ M, 0 ≤ s ∧ s ≤ 4 := by
  simp [okM, withinB] at h
  exact ⟨h.1.1, h.1.2, fun s hs => h.2 s hs⟩
theorem change_ok (v o0 o1 o2 o3 o4 o5 o6 o7 s t : Int) (w : World) (h : changeE v [o0, o1, o2, o3, o4, o5, o6, o7] s t = 0) :
    Calls Try.prog 5 #[mpv v o0 o1 o2 o3 o4 o5 o6 o7, .agg #[.int .i64 s, .int .i64 t]] w (ChangeOk w v [o0, o1, o2, o3, o4, o5, o6, o7] s.toNat t) := by
  obtain ⟨hok, hmay, hv⟩ := changeE_z h
  have hb := mayB_bd hmay
  have hb2 := okM_bd hok
  have h8 : s = 0 ∨ s = 1 ∨ s = 2 ∨ s = 3 ∨ s = 4 ∨ s = 5 ∨ s = 6 ∨ s = 7 := by omega
  rcases h8 with rfl | rfl | rfl | rfl | rfl | rfl | rfl | rfl
  · exact (change_ok0 v o0 o1 o2 o3 o4 o5 o6 o7 t w hok hmay (by omega) (by omega)).mono fun e w' ⟨h1, h2⟩ => ⟨t, o1, o2, o3, o4, o5, o6, o7, h1, rfl, h2⟩
  · exact (change_ok1 v o0 o1 o2 o3 o4 o5 o6 o7 t w hok hmay (by omega) (by omega)).mono fun e w' ⟨h1, h2⟩ => ⟨o0, t, o2, o3, o4, o5, o6, o7, h1, rfl, h2⟩
  · exact (change_ok2 v o0 o1 o2 o3 o4 o5 o6 o7 t w hok hmay (by omega) (by omega)).mono fun e w' ⟨h1, h2⟩ => ⟨o0, o1, t, o3, o4, o5, o6, o7, h1, rfl, h2⟩
  · exact (change_ok3 v o0 o1 o2 o3 o4 o5 o6 o7 t w hok hmay (by omega) (by omega)).mono fun e w' ⟨h1, h2⟩ => ⟨o0, o1, o2, t, o4, o5, o6, o7, h1, rfl, h2⟩
  · exact (change_ok4 v o0 o1 o2 o3 o4 o5 o6 o7 t w hok hmay (by omega) (by omega)).mono fun e w' ⟨h1, h2⟩ => ⟨o0, o1, o2, o3, t, o5, o6, o7, h1, rfl, h2⟩
  · exact (change_ok5 v o0 o1 o2 o3 o4 o5 o6 o7 t w hok hmay (by omega) (by omega)).mono fun e w' ⟨h1, h2⟩ => ⟨o0, o1, o2, o3, o4, t, o6, o7, h1, rfl, h2⟩
  · exact (change_ok6 v o0 o1 o2 o3 o4 o5 o6 o7 t w hok hmay (by omega) (by omega)).mono fun e w' ⟨h1, h2⟩ => ⟨o0, o1, o2, o3, o4, o5, t, o7, h1, rfl, h2⟩
  · exact (change_ok7 v o0 o1 o2 o3 o4 o5 o6 o7 t w hok hmay (by omega) (by omega)).mono fun e w' ⟨h1, h2⟩ => ⟨o0, o1, o2, o3, o4, o5, o6, t, h1, rfl, h2⟩
end Go.Proofs.Ytimafdiljcglfaa
