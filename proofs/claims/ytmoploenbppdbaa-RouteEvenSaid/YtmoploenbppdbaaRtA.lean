/-
  route.shardIs, May, Moved.
-/
import Derived.Test.YtmoploenbppdbaaIdx
import Derived.Test.YtmoploenbppdbaaRes
namespace Go.Proofs.Ytmoploenbppdbaa
open Go.RowKit

def ints (l : List Int) : List Value := l.map (Value.int .i64)
def isS (n : Int) : Bool := decide (1 ≤ n) && decide (n ≤ 4)
def okR (M : List Int) : Bool := M.all isS
theorem isS_bd {n : Int} (h : isS n = true) : 1 ≤ n ∧ n ≤ 4 := by simpa [isS] using h
theorem shardIs_any (n : Int) (w : World) : Calls Try.prog 13 #[.int .i64 n] w fun e w' => e = .returned (.bool (isS n)) ∧ w = w' := by
  by_cases h1 : 1 ≤ n
  · have : isS n = decide (n ≤ 4) := by simp [isS, h1]
    rw [this]
    go_enter Try.func13, Try.ntmps13
    go_wp2
    go_ret
    exact ⟨rfl, rfl⟩
  · have : isS n = false := by simp [isS, h1]
    rw [this]
    go_enter Try.func13, Try.ntmps13
    go_wp2
    go_ret
    exact ⟨rfl, rfl⟩

theorem idx8 (o0 o1 o2 o3 o4 o5 o6 o7 : Int) (k : Nat) (hk : k < 8) (w : World) :
    (Instr.index 22 (.agg #[.int .i64 o0, .int .i64 o1, .int .i64 o2, .int .i64 o3, .int .i64 o4, .int .i64 o5, .int .i64 o6, .int .i64 o7]) (.int .i64 (k : Int))).run Try.prog w = .ok (.int .i64 ([o0, o1, o2, o3, o4, o5, o6, o7].getD k 0)) w :=
  run_index_ints w Try.underlying22 Try.underlying3 (by kernel_rfl) .i64 [o0, o1, o2, o3, o4, o5, o6, o7] k hk rfl
theorem lit8 (o0 o1 o2 o3 o4 o5 o6 o7 : Int) (k : Nat) (hk : k < 8) : (#[.int .i64 o0, .int .i64 o1, .int .i64 o2, .int .i64 o3, .int .i64 o4, .int .i64 o5, .int .i64 o6, .int .i64 o7] : Array Value)[k]? = some (.int .i64 ([o0, o1, o2, o3, o4, o5, o6, o7].getD k 0)) := by
  have h8 : k = 0 ∨ k = 1 ∨ k = 2 ∨ k = 3 ∨ k = 4 ∨ k = 5 ∨ k = 6 ∨ k = 7 := by omega
  rcases h8 with rfl | rfl | rfl | rfl | rfl | rfl | rfl | rfl <;> rfl
theorem all_drop {p : Int → Bool} {M : List Int} {k : Nat} (h : k < M.length) : (M.drop k).all p = (p (M.getD k 0) && (M.drop (k + 1)).all p) := by
  rw [List.drop_eq_getElem_cons h, List.all_cons]
  simp [List.getElem?_eq_getElem h]

set_option maxHeartbeats 1000000 in
theorem may_any (o0 o1 o2 o3 o4 o5 o6 o7 : Int) (M : List Int) (hM : [o0, o1, o2, o3, o4, o5, o6, o7] = M) (w : World) :
    Calls Try.prog 6 #[.agg #[.int .i64 o0, .int .i64 o1, .int .i64 o2, .int .i64 o3, .int .i64 o4, .int .i64 o5, .int .i64 o6, .int .i64 o7]] w fun e w' => e = .returned (.bool (okR M)) ∧ Grows w w' := by
  have h8 : M.length = 8 := by rw [← hM]; rfl
  have hix : ∀ (k : Nat) (W : World), k < 8 → (Instr.index 22 (.agg #[.int .i64 o0, .int .i64 o1, .int .i64 o2, .int .i64 o3, .int .i64 o4, .int .i64 o5, .int .i64 o6, .int .i64 o7]) (.int .i64 (k : Int))).run Try.prog W = .ok (.int .i64 (M.getD k 0)) W := fun k W hk => by rw [← hM]; exact idx8 o0 o1 o2 o3 o4 o5 o6 o7 k hk W
  have HX := Lib.hid hix
  have H8 := Lib.hid h8
  clear hM hix h8
  go_enter Try.func6, Try.ntmps6
  go_wp2_with fail
  go_loopg [6] 8 (fun gh i wr => ∃ (k : Nat), k + gh = 8 ∧ i = .int .i64 (k : Int) ∧ Grows w wr ∧ okR M = (M.drop k).all isS)
  case atStart => exact ⟨0, by omega, rfl, (Grows.refl _).alloc _, rfl⟩
  case round =>
    obtain ⟨k, hk, rfl, hg, hall⟩ := hrel
    have HA := Lib.hid hall
    clear hall
    by_cases hlt : k < 8
    · have HD := all_drop (p := isS) (M := M) (k := k) (by rw [H8.out]; exact hlt)
      have hix := fun W => HX.out k W hlt
      generalize M.getD k 0 = s at *
      have hlt' : (k : Int) < 8 := by omega
      have HD := Lib.hid HD
      cases hs : isS s
      · have HF : Hid (okR M = false) := by show _ = _; rw [HA.out, HD.out, hs]; rfl
        go_wp2_with fail
        refine (shardIs_any _ _).mono ?_
        rintro e w1 ⟨rfl, rfl⟩
        rw [hs]
        go_wp2_with fail
        go_ret
        exact ⟨by rw [HF.out]; rfl, hg⟩
      · have HN : Hid (okR M = (M.drop (k + 1)).all isS) := by show _ = _; rw [HA.out, HD.out, hs]; rfl
        go_wp2_with fail
        refine (shardIs_any _ _).mono ?_
        rintro e w1 ⟨rfl, rfl⟩
        rw [hs]
        go_wp2_with fail
        go_roundg (gk - 1)
        case measure => omega
        case rel => exact ⟨k + 1, by omega, by go_num, hg, HN.out⟩
    · obtain rfl : k = 8 := by omega
      have HF : Hid (okR M = true) := by
        show _ = _
        rw [HA.out, List.drop_of_length_le (by rw [H8.out]; exact Nat.le_refl _)]
        rfl
      go_wp2_with fail
      go_ret
      exact ⟨by rw [HF.out]; rfl, hg⟩

theorem z8 (W : World) : (zeroValue 22).run Try.prog W = .ok (.agg #[.int .i64 0, .int .i64 0, .int .i64 0, .int .i64 0, .int .i64 0, .int .i64 0, .int .i64 0, .int .i64 0]) W := by kernel_rfl
theorem one8 (o0 o1 o2 o3 o4 o5 o6 o7 : Int) : (#[.int .i64 o0, .int .i64 o1, .int .i64 o2, .int .i64 o3, .int .i64 o4, .int .i64 o5, .int .i64 o6, .int .i64 o7] : Array Value).all (·.oneCell') = true := all_oneCell_toArray (one_ints .i64 [o0, o1, o2, o3, o4, o5, o6, o7])
def movedOk (M : List Int) (s t : Int) : Bool := okR M && (decide (0 ≤ s) && decide (s < 8)) && isS t

set_option maxHeartbeats 1000000 in
theorem moved_bad (o0 o1 o2 o3 o4 o5 o6 o7 s t : Int) (w : World) (h : movedOk [o0, o1, o2, o3, o4, o5, o6, o7] s t = false) :
    Calls Try.prog 9 #[.agg #[.int .i64 o0, .int .i64 o1, .int .i64 o2, .int .i64 o3, .int .i64 o4, .int .i64 o5, .int .i64 o6, .int .i64 o7], .agg #[.int .i64 s, .int .i64 t]] w fun e w' => e = .returned (.tuple #[.agg #[.int .i64 0, .int .i64 0, .int .i64 0, .int .i64 0, .int .i64 0, .int .i64 0, .int .i64 0, .int .i64 0], .int .i64 2]) ∧ Grows w w' := by
  have hz := z8
  have A0 := At.new ((w.alloc (.cells #[.int .i64 o0, .int .i64 o1, .int .i64 o2, .int .i64 o3, .int .i64 o4, .int .i64 o5, .int .i64 o6, .int .i64 o7] 22)).alloc (.cells #[.int .i64 s, .int .i64 t] 25)) 22 #[.int .i64 0, .int .i64 0, .int .i64 0, .int .i64 0, .int .i64 0, .int .i64 0, .int .i64 0, .int .i64 0]
  have B0 := ((At.new (w.alloc (.cells #[.int .i64 o0, .int .i64 o1, .int .i64 o2, .int .i64 o3, .int .i64 o4, .int .i64 o5, .int .i64 o6, .int .i64 o7] 22)) 25 #[.int .i64 s, .int .i64 t]).alloc (.cells #[.int .i64 0, .int .i64 0, .int .i64 0, .int .i64 0, .int .i64 0, .int .i64 0, .int .i64 0, .int .i64 0] 22))
  have M0 := ((At.new w 22 #[.int .i64 o0, .int .i64 o1, .int .i64 o2, .int .i64 o3, .int .i64 o4, .int .i64 o5, .int .i64 o6, .int .i64 o7]).alloc (.cells #[.int .i64 s, .int .i64 t] 25)).alloc (.cells #[.int .i64 0, .int .i64 0, .int .i64 0, .int .i64 0, .int .i64 0, .int .i64 0, .int .i64 0, .int .i64 0] 22)
  have G0 := ((((Grows.refl w).alloc (.cells #[.int .i64 o0, .int .i64 o1, .int .i64 o2, .int .i64 o3, .int .i64 o4, .int .i64 o5, .int .i64 o6, .int .i64 o7] 22)).alloc (.cells #[.int .i64 s, .int .i64 t] 25)).alloc (.cells #[.int .i64 0, .int .i64 0, .int .i64 0, .int .i64 0, .int .i64 0, .int .i64 0, .int .i64 0, .int .i64 0] 22))
  simp only [World.size_alloc] at A0 B0
  have HA0 := Lib.hid A0
  have HB0 := Lib.hid B0
  have HM0 := Lib.hid M0
  clear A0 B0 M0
  cases hR : okR [o0, o1, o2, o3, o4, o5, o6, o7] with
  | false =>
    clear h
    go_enter Try.func9, Try.ntmps9
    go_wp2_with fail
    refine (may_any o0 o1 o2 o3 o4 o5 o6 o7 _ rfl _).mono ?_
    rw [hR]
    rintro e w1 ⟨rfl, hb1⟩
    have A1 := Lib.hid (HA0.out.grows hb1)
    have B1 := Lib.hid (HB0.out.grows hb1)
    have M1 := Lib.hid (HM0.out.grows hb1)
    have G1 := G0.trans hb1
    have cb := B1.out.cell
    go_wp2_with (with_reducible refine wpList_store_mid (op := ⟨none, .store 22 (.tmp 4) (.tmp 25), _, _, _, none⟩) rfl 22 (.tmp 4) (.tmp 25) rfl (w.heap.size + 1 + 1) (0) #[.int .i64 0, .int .i64 0, .int .i64 0, .int .i64 0, .int .i64 0, .int .i64 0, .int .i64 0, .int .i64 0] ?s1a ?s1b ?s1c ?s1d ?s1e ?_)
    case s1a => rfl
    case s1b => rfl
    case s1c => exact A1.out.there 0 8 (by simp)
    case s1d => kernel_rfl
    case s1e => exact one8 _ _ _ _ _ _ _ _
    refine bodyPost_ret (results_row_tmp Try.results9 _ _ (w.heap.size + 1 + 1) 22 _ _ rfl (At.all (vs := ints [0, 0, 0, 0, 0, 0, 0, 0]) (cs := ints [0, 0, 0, 0, 0, 0, 0, 0]) A1.out rfl) Try.underlying22 rfl (by kernel_rfl)) rfl ⟨rfl, Grows.setCells (by omega) _ _ G1⟩
  | true =>
    by_cases h1 : s < 0
    · have h1' : decide (s < 0) = true := by simpa using h1
      clear h
      go_enter Try.func9, Try.ntmps9
      go_wp2_with fail
      refine (may_any o0 o1 o2 o3 o4 o5 o6 o7 _ rfl _).mono ?_
      rw [hR]
      rintro e w1 ⟨rfl, hb1⟩
      have A1 := Lib.hid (HA0.out.grows hb1)
      have B1 := Lib.hid (HB0.out.grows hb1)
      have M1 := Lib.hid (HM0.out.grows hb1)
      have G1 := G0.trans hb1
      have cb := B1.out.cell
      go_wp2_with (with_reducible refine wpList_store_mid (op := ⟨none, .store 22 (.tmp 4) (.tmp 25), _, _, _, none⟩) rfl 22 (.tmp 4) (.tmp 25) rfl (w.heap.size + 1 + 1) (0) #[.int .i64 0, .int .i64 0, .int .i64 0, .int .i64 0, .int .i64 0, .int .i64 0, .int .i64 0, .int .i64 0] ?s2a ?s2b ?s2c ?s2d ?s2e ?_)
      case s2a => rfl
      case s2b => rfl
      case s2c => exact A1.out.there 0 8 (by simp)
      case s2d => kernel_rfl
      case s2e => exact one8 _ _ _ _ _ _ _ _
      refine bodyPost_ret (results_row_tmp Try.results9 _ _ (w.heap.size + 1 + 1) 22 _ _ rfl (At.all (vs := ints [0, 0, 0, 0, 0, 0, 0, 0]) (cs := ints [0, 0, 0, 0, 0, 0, 0, 0]) A1.out rfl) Try.underlying22 rfl (by kernel_rfl)) rfl ⟨rfl, Grows.setCells (by omega) _ _ G1⟩
    by_cases h2 : 8 ≤ s
    · have h2' : decide (8 ≤ s) = true := by simpa using h2
      clear h
      go_enter Try.func9, Try.ntmps9
      go_wp2_with fail
      refine (may_any o0 o1 o2 o3 o4 o5 o6 o7 _ rfl _).mono ?_
      rw [hR]
      rintro e w1 ⟨rfl, hb1⟩
      have A1 := Lib.hid (HA0.out.grows hb1)
      have B1 := Lib.hid (HB0.out.grows hb1)
      have M1 := Lib.hid (HM0.out.grows hb1)
      have G1 := G0.trans hb1
      have cb := B1.out.cell
      go_wp2_with (with_reducible refine wpList_store_mid (op := ⟨none, .store 22 (.tmp 4) (.tmp 25), _, _, _, none⟩) rfl 22 (.tmp 4) (.tmp 25) rfl (w.heap.size + 1 + 1) (0) #[.int .i64 0, .int .i64 0, .int .i64 0, .int .i64 0, .int .i64 0, .int .i64 0, .int .i64 0, .int .i64 0] ?s3a ?s3b ?s3c ?s3d ?s3e ?_)
      case s3a => rfl
      case s3b => rfl
      case s3c => exact A1.out.there 0 8 (by simp)
      case s3d => kernel_rfl
      case s3e => exact one8 _ _ _ _ _ _ _ _
      refine bodyPost_ret (results_row_tmp Try.results9 _ _ (w.heap.size + 1 + 1) 22 _ _ rfl (At.all (vs := ints [0, 0, 0, 0, 0, 0, 0, 0]) (cs := ints [0, 0, 0, 0, 0, 0, 0, 0]) A1.out rfl) Try.underlying22 rfl (by kernel_rfl)) rfl ⟨rfl, Grows.setCells (by omega) _ _ G1⟩
    · have h3 : isS t = false := by
        simp only [movedOk, hR] at h
        have : decide (0 ≤ s) = true := by simp; omega
        have : decide (s < 8) = true := by simp; omega
        simp_all
      clear h
      go_enter Try.func9, Try.ntmps9
      go_wp2_with fail
      refine (may_any o0 o1 o2 o3 o4 o5 o6 o7 _ rfl _).mono ?_
      rw [hR]
      rintro e w1 ⟨rfl, hb1⟩
      have A1 := Lib.hid (HA0.out.grows hb1)
      have B1 := Lib.hid (HB0.out.grows hb1)
      have M1 := Lib.hid (HM0.out.grows hb1)
      have G1 := G0.trans hb1
      have cb := B1.out.cell
      go_wp2_with fail
      refine (shardIs_any _ _).mono ?_
      rw [h3]
      rintro e w2 ⟨rfl, rfl⟩
      go_wp2_with (with_reducible refine wpList_store_mid (op := ⟨none, .store 22 (.tmp 4) (.tmp 25), _, _, _, none⟩) rfl 22 (.tmp 4) (.tmp 25) rfl (w.heap.size + 1 + 1) (0) #[.int .i64 0, .int .i64 0, .int .i64 0, .int .i64 0, .int .i64 0, .int .i64 0, .int .i64 0, .int .i64 0] ?s4a ?s4b ?s4c ?s4d ?s4e ?_)
      case s4a => rfl
      case s4b => rfl
      case s4c => exact A1.out.there 0 8 (by simp)
      case s4d => kernel_rfl
      case s4e => exact one8 _ _ _ _ _ _ _ _
      refine bodyPost_ret (results_row_tmp Try.results9 _ _ (w.heap.size + 1 + 1) 22 _ _ rfl (At.all (vs := ints [0, 0, 0, 0, 0, 0, 0, 0]) (cs := ints [0, 0, 0, 0, 0, 0, 0, 0]) A1.out rfl) Try.underlying22 rfl (by kernel_rfl)) rfl ⟨rfl, Grows.setCells (by omega) _ _ G1⟩
set_option maxHeartbeats 1000000 in
theorem moved_ok0 (o0 o1 o2 o3 o4 o5 o6 o7 t : Int) (w : World) (hR : okR [o0, o1, o2, o3, o4, o5, o6, o7] = true) (ht : isS t = true) :
    Calls Try.prog 9 #[.agg #[.int .i64 o0, .int .i64 o1, .int .i64 o2, .int .i64 o3, .int .i64 o4, .int .i64 o5, .int .i64 o6, .int .i64 o7], .agg #[.int .i64 0, .int .i64 t]] w fun e w' => e = .returned (.tuple #[.agg #[.int .i64 t, .int .i64 o1, .int .i64 o2, .int .i64 o3, .int .i64 o4, .int .i64 o5, .int .i64 o6, .int .i64 o7], .int .i64 0]) ∧ Grows w w' := by
  have hz := z8
  have A0 := At.new ((w.alloc (.cells #[.int .i64 o0, .int .i64 o1, .int .i64 o2, .int .i64 o3, .int .i64 o4, .int .i64 o5, .int .i64 o6, .int .i64 o7] 22)).alloc (.cells #[.int .i64 0, .int .i64 t] 25)) 22 #[.int .i64 0, .int .i64 0, .int .i64 0, .int .i64 0, .int .i64 0, .int .i64 0, .int .i64 0, .int .i64 0]
  have B0 := ((At.new (w.alloc (.cells #[.int .i64 o0, .int .i64 o1, .int .i64 o2, .int .i64 o3, .int .i64 o4, .int .i64 o5, .int .i64 o6, .int .i64 o7] 22)) 25 #[.int .i64 0, .int .i64 t]).alloc (.cells #[.int .i64 0, .int .i64 0, .int .i64 0, .int .i64 0, .int .i64 0, .int .i64 0, .int .i64 0, .int .i64 0] 22))
  have M0 := ((At.new w 22 #[.int .i64 o0, .int .i64 o1, .int .i64 o2, .int .i64 o3, .int .i64 o4, .int .i64 o5, .int .i64 o6, .int .i64 o7]).alloc (.cells #[.int .i64 0, .int .i64 t] 25)).alloc (.cells #[.int .i64 0, .int .i64 0, .int .i64 0, .int .i64 0, .int .i64 0, .int .i64 0, .int .i64 0, .int .i64 0] 22)
  have G0 := ((((Grows.refl w).alloc (.cells #[.int .i64 o0, .int .i64 o1, .int .i64 o2, .int .i64 o3, .int .i64 o4, .int .i64 o5, .int .i64 o6, .int .i64 o7] 22)).alloc (.cells #[.int .i64 0, .int .i64 t] 25)).alloc (.cells #[.int .i64 0, .int .i64 0, .int .i64 0, .int .i64 0, .int .i64 0, .int .i64 0, .int .i64 0, .int .i64 0] 22))
  simp only [World.size_alloc] at A0 B0
  have HA0 := Lib.hid A0
  have HB0 := Lib.hid B0
  have HM0 := Lib.hid M0
  clear A0 B0 M0
  go_enter Try.func9, Try.ntmps9
  go_wp2_with fail
  refine (may_any o0 o1 o2 o3 o4 o5 o6 o7 _ rfl _).mono ?_
  rw [hR]
  rintro e w1 ⟨rfl, hb1⟩
  have A1 := Lib.hid (HA0.out.grows hb1)
  have B1 := Lib.hid (HB0.out.grows hb1)
  have M1 := Lib.hid (HM0.out.grows hb1)
  have G1 := G0.trans hb1
  have cb := B1.out.cell
  go_wp2_with fail
  refine (shardIs_any _ _).mono ?_
  rw [ht]
  rintro e w2 ⟨rfl, rfl⟩
  have cm := M1.out.cell
  have fm := M1.out.frozen
  have A3 := Lib.hid (A1.out.far (p := ⟨w.heap.size, 0, none⟩) (by simp; omega) (.int .i64 t))
  go_wp2_with (with_reducible refine wpList_store_mid (op := ⟨none, .store 22 (.tmp 4) (.tmp 31), _, _, _, none⟩) rfl 22 (.tmp 4) (.tmp 31) rfl (w.heap.size + 1 + 1) (0) #[.int .i64 t, .int .i64 o1, .int .i64 o2, .int .i64 o3, .int .i64 o4, .int .i64 o5, .int .i64 o6, .int .i64 o7] ?s5a ?s5b ?s5c ?s5d ?s5e ?_)
  case s5a => rfl
  case s5b => rfl
  case s5c => exact A3.out.there 0 8 (by simp)
  case s5d => kernel_rfl
  case s5e => exact one8 _ _ _ _ _ _ _ _
  refine bodyPost_ret (results_row_tmp Try.results9 _ _ (w.heap.size + 1 + 1) 22 _ _ rfl (At.all (vs := ints [t, o1, o2, o3, o4, o5, o6, o7]) (cs := ints [0, 0, 0, 0, 0, 0, 0, 0]) A3.out rfl) Try.underlying22 rfl (by kernel_rfl)) rfl ⟨rfl, Grows.setCells (by omega) _ _ (G1.setCell (Nat.le_refl _) _)⟩
set_option maxHeartbeats 1000000 in
theorem moved_ok1 (o0 o1 o2 o3 o4 o5 o6 o7 t : Int) (w : World) (hR : okR [o0, o1, o2, o3, o4, o5, o6, o7] = true) (ht : isS t = true) :
    Calls Try.prog 9 #[.agg #[.int .i64 o0, .int .i64 o1, .int .i64 o2, .int .i64 o3, .int .i64 o4, .int .i64 o5, .int .i64 o6, .int .i64 o7], .agg #[.int .i64 1, .int .i64 t]] w fun e w' => e = .returned (.tuple #[.agg #[.int .i64 o0, .int .i64 t, .int .i64 o2, .int .i64 o3, .int .i64 o4, .int .i64 o5, .int .i64 o6, .int .i64 o7], .int .i64 0]) ∧ Grows w w' := by
  have hz := z8
  have A0 := At.new ((w.alloc (.cells #[.int .i64 o0, .int .i64 o1, .int .i64 o2, .int .i64 o3, .int .i64 o4, .int .i64 o5, .int .i64 o6, .int .i64 o7] 22)).alloc (.cells #[.int .i64 1, .int .i64 t] 25)) 22 #[.int .i64 0, .int .i64 0, .int .i64 0, .int .i64 0, .int .i64 0, .int .i64 0, .int .i64 0, .int .i64 0]
  have B0 := ((At.new (w.alloc (.cells #[.int .i64 o0, .int .i64 o1, .int .i64 o2, .int .i64 o3, .int .i64 o4, .int .i64 o5, .int .i64 o6, .int .i64 o7] 22)) 25 #[.int .i64 1, .int .i64 t]).alloc (.cells #[.int .i64 0, .int .i64 0, .int .i64 0, .int .i64 0, .int .i64 0, .int .i64 0, .int .i64 0, .int .i64 0] 22))
  have M0 := ((At.new w 22 #[.int .i64 o0, .int .i64 o1, .int .i64 o2, .int .i64 o3, .int .i64 o4, .int .i64 o5, .int .i64 o6, .int .i64 o7]).alloc (.cells #[.int .i64 1, .int .i64 t] 25)).alloc (.cells #[.int .i64 0, .int .i64 0, .int .i64 0, .int .i64 0, .int .i64 0, .int .i64 0, .int .i64 0, .int .i64 0] 22)
  have G0 := ((((Grows.refl w).alloc (.cells #[.int .i64 o0, .int .i64 o1, .int .i64 o2, .int .i64 o3, .int .i64 o4, .int .i64 o5, .int .i64 o6, .int .i64 o7] 22)).alloc (.cells #[.int .i64 1, .int .i64 t] 25)).alloc (.cells #[.int .i64 0, .int .i64 0, .int .i64 0, .int .i64 0, .int .i64 0, .int .i64 0, .int .i64 0, .int .i64 0] 22))
  simp only [World.size_alloc] at A0 B0
  have HA0 := Lib.hid A0
  have HB0 := Lib.hid B0
  have HM0 := Lib.hid M0
  clear A0 B0 M0
  go_enter Try.func9, Try.ntmps9
  go_wp2_with fail
  refine (may_any o0 o1 o2 o3 o4 o5 o6 o7 _ rfl _).mono ?_
  rw [hR]
  rintro e w1 ⟨rfl, hb1⟩
  have A1 := Lib.hid (HA0.out.grows hb1)
  have B1 := Lib.hid (HB0.out.grows hb1)
  have M1 := Lib.hid (HM0.out.grows hb1)
  have G1 := G0.trans hb1
  have cb := B1.out.cell
  go_wp2_with fail
  refine (shardIs_any _ _).mono ?_
  rw [ht]
  rintro e w2 ⟨rfl, rfl⟩
  have cm := M1.out.cell
  have fm := M1.out.frozen
  have A3 := Lib.hid (A1.out.far (p := ⟨w.heap.size, 1, none⟩) (by simp; omega) (.int .i64 t))
  go_wp2_with (with_reducible refine wpList_store_mid (op := ⟨none, .store 22 (.tmp 4) (.tmp 31), _, _, _, none⟩) rfl 22 (.tmp 4) (.tmp 31) rfl (w.heap.size + 1 + 1) (0) #[.int .i64 o0, .int .i64 t, .int .i64 o2, .int .i64 o3, .int .i64 o4, .int .i64 o5, .int .i64 o6, .int .i64 o7] ?s6a ?s6b ?s6c ?s6d ?s6e ?_)
  case s6a => rfl
  case s6b => rfl
  case s6c => exact A3.out.there 0 8 (by simp)
  case s6d => kernel_rfl
  case s6e => exact one8 _ _ _ _ _ _ _ _
  refine bodyPost_ret (results_row_tmp Try.results9 _ _ (w.heap.size + 1 + 1) 22 _ _ rfl (At.all (vs := ints [o0, t, o2, o3, o4, o5, o6, o7]) (cs := ints [0, 0, 0, 0, 0, 0, 0, 0]) A3.out rfl) Try.underlying22 rfl (by kernel_rfl)) rfl ⟨rfl, Grows.setCells (by omega) _ _ (G1.setCell (Nat.le_refl _) _)⟩
set_option maxHeartbeats 1000000 in
theorem moved_ok2 (o0 o1 o2 o3 o4 o5 o6 o7 t : Int) (w : World) (hR : okR [o0, o1, o2, o3, o4, o5, o6, o7] = true) (ht : isS t = true) :
    Calls Try.prog 9 #[.agg #[.int .i64 o0, .int .i64 o1, .int .i64 o2, .int .i64 o3, .int .i64 o4, .int .i64 o5, .int .i64 o6, .int .i64 o7], .agg #[.int .i64 2, .int .i64 t]] w fun e w' => e = .returned (.tuple #[.agg #[.int .i64 o0, .int .i64 o1, .int .i64 t, .int .i64 o3, .int .i64 o4, .int .i64 o5, .int .i64 o6, .int .i64 o7], .int .i64 0]) ∧ Grows w w' := by
  have hz := z8
  have A0 := At.new ((w.alloc (.cells #[.int .i64 o0, .int .i64 o1, .int .i64 o2, .int .i64 o3, .int .i64 o4, .int .i64 o5, .int .i64 o6, .int .i64 o7] 22)).alloc (.cells #[.int .i64 2, .int .i64 t] 25)) 22 #[.int .i64 0, .int .i64 0, .int .i64 0, .int .i64 0, .int .i64 0, .int .i64 0, .int .i64 0, .int .i64 0]
  have B0 := ((At.new (w.alloc (.cells #[.int .i64 o0, .int .i64 o1, .int .i64 o2, .int .i64 o3, .int .i64 o4, .int .i64 o5, .int .i64 o6, .int .i64 o7] 22)) 25 #[.int .i64 2, .int .i64 t]).alloc (.cells #[.int .i64 0, .int .i64 0, .int .i64 0, .int .i64 0, .int .i64 0, .int .i64 0, .int .i64 0, .int .i64 0] 22))
  have M0 := ((At.new w 22 #[.int .i64 o0, .int .i64 o1, .int .i64 o2, .int .i64 o3, .int .i64 o4, .int .i64 o5, .int .i64 o6, .int .i64 o7]).alloc (.cells #[.int .i64 2, .int .i64 t] 25)).alloc (.cells #[.int .i64 0, .int .i64 0, .int .i64 0, .int .i64 0, .int .i64 0, .int .i64 0, .int .i64 0, .int .i64 0] 22)
  have G0 := ((((Grows.refl w).alloc (.cells #[.int .i64 o0, .int .i64 o1, .int .i64 o2, .int .i64 o3, .int .i64 o4, .int .i64 o5, .int .i64 o6, .int .i64 o7] 22)).alloc (.cells #[.int .i64 2, .int .i64 t] 25)).alloc (.cells #[.int .i64 0, .int .i64 0, .int .i64 0, .int .i64 0, .int .i64 0, .int .i64 0, .int .i64 0, .int .i64 0] 22))
  simp only [World.size_alloc] at A0 B0
  have HA0 := Lib.hid A0
  have HB0 := Lib.hid B0
  have HM0 := Lib.hid M0
  clear A0 B0 M0
  go_enter Try.func9, Try.ntmps9
  go_wp2_with fail
  refine (may_any o0 o1 o2 o3 o4 o5 o6 o7 _ rfl _).mono ?_
  rw [hR]
  rintro e w1 ⟨rfl, hb1⟩
  have A1 := Lib.hid (HA0.out.grows hb1)
  have B1 := Lib.hid (HB0.out.grows hb1)
  have M1 := Lib.hid (HM0.out.grows hb1)
  have G1 := G0.trans hb1
  have cb := B1.out.cell
  go_wp2_with fail
  refine (shardIs_any _ _).mono ?_
  rw [ht]
  rintro e w2 ⟨rfl, rfl⟩
  have cm := M1.out.cell
  have fm := M1.out.frozen
  have A3 := Lib.hid (A1.out.far (p := ⟨w.heap.size, 2, none⟩) (by simp; omega) (.int .i64 t))
  go_wp2_with (with_reducible refine wpList_store_mid (op := ⟨none, .store 22 (.tmp 4) (.tmp 31), _, _, _, none⟩) rfl 22 (.tmp 4) (.tmp 31) rfl (w.heap.size + 1 + 1) (0) #[.int .i64 o0, .int .i64 o1, .int .i64 t, .int .i64 o3, .int .i64 o4, .int .i64 o5, .int .i64 o6, .int .i64 o7] ?s7a ?s7b ?s7c ?s7d ?s7e ?_)
  case s7a => rfl
  case s7b => rfl
  case s7c => exact A3.out.there 0 8 (by simp)
  case s7d => kernel_rfl
  case s7e => exact one8 _ _ _ _ _ _ _ _
  refine bodyPost_ret (results_row_tmp Try.results9 _ _ (w.heap.size + 1 + 1) 22 _ _ rfl (At.all (vs := ints [o0, o1, t, o3, o4, o5, o6, o7]) (cs := ints [0, 0, 0, 0, 0, 0, 0, 0]) A3.out rfl) Try.underlying22 rfl (by kernel_rfl)) rfl ⟨rfl, Grows.setCells (by omega) _ _ (G1.setCell (Nat.le_refl _) _)⟩
set_option maxHeartbeats 1000000 in
theorem moved_ok3 (o0 o1 o2 o3 o4 o5 o6 o7 t : Int) (w : World) (hR : okR [o0, o1, o2, o3, o4, o5, o6, o7] = true) (ht : isS t = true) :
    Calls Try.prog 9 #[.agg #[.int .i64 o0, .int .i64 o1, .int .i64 o2, .int .i64 o3, .int .i64 o4, .int .i64 o5, .int .i64 o6, .int .i64 o7], .agg #[.int .i64 3, .int .i64 t]] w fun e w' => e = .returned (.tuple #[.agg #[.int .i64 o0, .int .i64 o1, .int .i64 o2, .int .i64 t, .int .i64 o4, .int .i64 o5, .int .i64 o6, .int .i64 o7], .int .i64 0]) ∧ Grows w w' := by
  have hz := z8
  have A0 := At.new ((w.alloc (.cells #[.int .i64 o0, .int .i64 o1, .int .i64 o2, .int .i64 o3, .int .i64 o4, .int .i64 o5, .int .i64 o6, .int .i64 o7] 22)).alloc (.cells #[.int .i64 3, .int .i64 t] 25)) 22 #[.int .i64 0, .int .i64 0, .int .i64 0, .int .i64 0, .int .i64 0, .int .i64 0, .int .i64 0, .int .i64 0]
  have B0 := ((At.new (w.alloc (.cells #[.int .i64 o0, .int .i64 o1, .int .i64 o2, .int .i64 o3, .int .i64 o4, .int .i64 o5, .int .i64 o6, .int .i64 o7] 22)) 25 #[.int .i64 3, .int .i64 t]).alloc (.cells #[.int .i64 0, .int .i64 0, .int .i64 0, .int .i64 0, .int .i64 0, .int .i64 0, .int .i64 0, .int .i64 0] 22))
  have M0 := ((At.new w 22 #[.int .i64 o0, .int .i64 o1, .int .i64 o2, .int .i64 o3, .int .i64 o4, .int .i64 o5, .int .i64 o6, .int .i64 o7]).alloc (.cells #[.int .i64 3, .int .i64 t] 25)).alloc (.cells #[.int .i64 0, .int .i64 0, .int .i64 0, .int .i64 0, .int .i64 0, .int .i64 0, .int .i64 0, .int .i64 0] 22)
  have G0 := ((((Grows.refl w).alloc (.cells #[.int .i64 o0, .int .i64 o1, .int .i64 o2, .int .i64 o3, .int .i64 o4, .int .i64 o5, .int .i64 o6, .int .i64 o7] 22)).alloc (.cells #[.int .i64 3, .int .i64 t] 25)).alloc (.cells #[.int .i64 0, .int .i64 0, .int .i64 0, .int .i64 0, .int .i64 0, .int .i64 0, .int .i64 0, .int .i64 0] 22))
  simp only [World.size_alloc] at A0 B0
  have HA0 := Lib.hid A0
  have HB0 := Lib.hid B0
  have HM0 := Lib.hid M0
  clear A0 B0 M0
  go_enter Try.func9, Try.ntmps9
  go_wp2_with fail
  refine (may_any o0 o1 o2 o3 o4 o5 o6 o7 _ rfl _).mono ?_
  rw [hR]
  rintro e w1 ⟨rfl, hb1⟩
  have A1 := Lib.hid (HA0.out.grows hb1)
  have B1 := Lib.hid (HB0.out.grows hb1)
  have M1 := Lib.hid (HM0.out.grows hb1)
  have G1 := G0.trans hb1
  have cb := B1.out.cell
  go_wp2_with fail
  refine (shardIs_any _ _).mono ?_
  rw [ht]
  rintro e w2 ⟨rfl, rfl⟩
  have cm := M1.out.cell
  have fm := M1.out.frozen
  have A3 := Lib.hid (A1.out.far (p := ⟨w.heap.size, 3, none⟩) (by simp; omega) (.int .i64 t))
  go_wp2_with (with_reducible refine wpList_store_mid (op := ⟨none, .store 22 (.tmp 4) (.tmp 31), _, _, _, none⟩) rfl 22 (.tmp 4) (.tmp 31) rfl (w.heap.size + 1 + 1) (0) #[.int .i64 o0, .int .i64 o1, .int .i64 o2, .int .i64 t, .int .i64 o4, .int .i64 o5, .int .i64 o6, .int .i64 o7] ?s8a ?s8b ?s8c ?s8d ?s8e ?_)
  case s8a => rfl
  case s8b => rfl
  case s8c => exact A3.out.there 0 8 (by simp)
  case s8d => kernel_rfl
  case s8e => exact one8 _ _ _ _ _ _ _ _
  refine bodyPost_ret (results_row_tmp Try.results9 _ _ (w.heap.size + 1 + 1) 22 _ _ rfl (At.all (vs := ints [o0, o1, o2, t, o4, o5, o6, o7]) (cs := ints [0, 0, 0, 0, 0, 0, 0, 0]) A3.out rfl) Try.underlying22 rfl (by kernel_rfl)) rfl ⟨rfl, Grows.setCells (by omega) _ _ (G1.setCell (Nat.le_refl _) _)⟩
set_option maxHeartbeats 1000000 in
theorem moved_ok4 (o0 o1 o2 o3 o4 o5 o6 o7 t : Int) (w : World) (hR : okR [o0, o1, o2, o3, o4, o5, o6, o7] = true) (ht : isS t = true) :
    Calls Try.prog 9 #[.agg #[.int .i64 o0, .int .i64 o1, .int .i64 o2, .int .i64 o3, .int .i64 o4, .int .i64 o5, .int .i64 o6, .int .i64 o7], .agg #[.int .i64 4, .int .i64 t]] w fun e w' => e = .returned (.tuple #[.agg #[.int .i64 o0, .int .i64 o1, .int .i64 o2, .int .i64 o3, .int .i64 t, .int .i64 o5, .int .i64 o6, .int .i64 o7], .int .i64 0]) ∧ Grows w w' := by
  have hz := z8
  have A0 := At.new ((w.alloc (.cells #[.int .i64 o0, .int .i64 o1, .int .i64 o2, .int .i64 o3, .int .i64 o4, .int .i64 o5, .int .i64 o6, .int .i64 o7] 22)).alloc (.cells #[.int .i64 4, .int .i64 t] 25)) 22 #[.int .i64 0, .int .i64 0, .int .i64 0, .int .i64 0, .int .i64 0, .int .i64 0, .int .i64 0, .int .i64 0]
  have B0 := ((At.new (w.alloc (.cells #[.int .i64 o0, .int .i64 o1, .int .i64 o2, .int .i64 o3, .int .i64 o4, .int .i64 o5, .int .i64 o6, .int .i64 o7] 22)) 25 #[.int .i64 4, .int .i64 t]).alloc (.cells #[.int .i64 0, .int .i64 0, .int .i64 0, .int .i64 0, .int .i64 0, .int .i64 0, .int .i64 0, .int .i64 0] 22))
  have M0 := ((At.new w 22 #[.int .i64 o0, .int .i64 o1, .int .i64 o2, .int .i64 o3, .int .i64 o4, .int .i64 o5, .int .i64 o6, .int .i64 o7]).alloc (.cells #[.int .i64 4, .int .i64 t] 25)).alloc (.cells #[.int .i64 0, .int .i64 0, .int .i64 0, .int .i64 0, .int .i64 0, .int .i64 0, .int .i64 0, .int .i64 0] 22)
  have G0 := ((((Grows.refl w).alloc (.cells #[.int .i64 o0, .int .i64 o1, .int .i64 o2, .int .i64 o3, .int .i64 o4, .int .i64 o5, .int .i64 o6, .int .i64 o7] 22)).alloc (.cells #[.int .i64 4, .int .i64 t] 25)).alloc (.cells #[.int .i64 0, .int .i64 0, .int .i64 0, .int .i64 0, .int .i64 0, .int .i64 0, .int .i64 0, .int .i64 0] 22))
  simp only [World.size_alloc] at A0 B0
  have HA0 := Lib.hid A0
  have HB0 := Lib.hid B0
  have HM0 := Lib.hid M0
  clear A0 B0 M0
  go_enter Try.func9, Try.ntmps9
  go_wp2_with fail
  refine (may_any o0 o1 o2 o3 o4 o5 o6 o7 _ rfl _).mono ?_
  rw [hR]
  rintro e w1 ⟨rfl, hb1⟩
  have A1 := Lib.hid (HA0.out.grows hb1)
  have B1 := Lib.hid (HB0.out.grows hb1)
  have M1 := Lib.hid (HM0.out.grows hb1)
  have G1 := G0.trans hb1
  have cb := B1.out.cell
  go_wp2_with fail
  refine (shardIs_any _ _).mono ?_
  rw [ht]
  rintro e w2 ⟨rfl, rfl⟩
  have cm := M1.out.cell
  have fm := M1.out.frozen
  have A3 := Lib.hid (A1.out.far (p := ⟨w.heap.size, 4, none⟩) (by simp; omega) (.int .i64 t))
  go_wp2_with (with_reducible refine wpList_store_mid (op := ⟨none, .store 22 (.tmp 4) (.tmp 31), _, _, _, none⟩) rfl 22 (.tmp 4) (.tmp 31) rfl (w.heap.size + 1 + 1) (0) #[.int .i64 o0, .int .i64 o1, .int .i64 o2, .int .i64 o3, .int .i64 t, .int .i64 o5, .int .i64 o6, .int .i64 o7] ?s9a ?s9b ?s9c ?s9d ?s9e ?_)
  case s9a => rfl
  case s9b => rfl
  case s9c => exact A3.out.there 0 8 (by simp)
  case s9d => kernel_rfl
  case s9e => exact one8 _ _ _ _ _ _ _ _
  refine bodyPost_ret (results_row_tmp Try.results9 _ _ (w.heap.size + 1 + 1) 22 _ _ rfl (At.all (vs := ints [o0, o1, o2, o3, t, o5, o6, o7]) (cs := ints [0, 0, 0, 0, 0, 0, 0, 0]) A3.out rfl) Try.underlying22 rfl (by kernel_rfl)) rfl ⟨rfl, Grows.setCells (by omega) _ _ (G1.setCell (Nat.le_refl _) _)⟩
set_option maxHeartbeats 1000000 in
theorem moved_ok5 (o0 o1 o2 o3 o4 o5 o6 o7 t : Int) (w : World) (hR : okR [o0, o1, o2, o3, o4, o5, o6, o7] = true) (ht : isS t = true) :
    Calls Try.prog 9 #[.agg #[.int .i64 o0, .int .i64 o1, .int .i64 o2, .int .i64 o3, .int .i64 o4, .int .i64 o5, .int .i64 o6, .int .i64 o7], .agg #[.int .i64 5, .int .i64 t]] w fun e w' => e = .returned (.tuple #[.agg #[.int .i64 o0, .int .i64 o1, .int .i64 o2, .int .i64 o3, .int .i64 o4, .int .i64 t, .int .i64 o6, .int .i64 o7], .int .i64 0]) ∧ Grows w w' := by
  have hz := z8
  have A0 := At.new ((w.alloc (.cells #[.int .i64 o0, .int .i64 o1, .int .i64 o2, .int .i64 o3, .int .i64 o4, .int .i64 o5, .int .i64 o6, .int .i64 o7] 22)).alloc (.cells #[.int .i64 5, .int .i64 t] 25)) 22 #[.int .i64 0, .int .i64 0, .int .i64 0, .int .i64 0, .int .i64 0, .int .i64 0, .int .i64 0, .int .i64 0]
  have B0 := ((At.new (w.alloc (.cells #[.int .i64 o0, .int .i64 o1, .int .i64 o2, .int .i64 o3, .int .i64 o4, .int .i64 o5, .int .i64 o6, .int .i64 o7] 22)) 25 #[.int .i64 5, .int .i64 t]).alloc (.cells #[.int .i64 0, .int .i64 0, .int .i64 0, .int .i64 0, .int .i64 0, .int .i64 0, .int .i64 0, .int .i64 0] 22))
  have M0 := ((At.new w 22 #[.int .i64 o0, .int .i64 o1, .int .i64 o2, .int .i64 o3, .int .i64 o4, .int .i64 o5, .int .i64 o6, .int .i64 o7]).alloc (.cells #[.int .i64 5, .int .i64 t] 25)).alloc (.cells #[.int .i64 0, .int .i64 0, .int .i64 0, .int .i64 0, .int .i64 0, .int .i64 0, .int .i64 0, .int .i64 0] 22)
  have G0 := ((((Grows.refl w).alloc (.cells #[.int .i64 o0, .int .i64 o1, .int .i64 o2, .int .i64 o3, .int .i64 o4, .int .i64 o5, .int .i64 o6, .int .i64 o7] 22)).alloc (.cells #[.int .i64 5, .int .i64 t] 25)).alloc (.cells #[.int .i64 0, .int .i64 0, .int .i64 0, .int .i64 0, .int .i64 0, .int .i64 0, .int .i64 0, .int .i64 0] 22))
  simp only [World.size_alloc] at A0 B0
  have HA0 := Lib.hid A0
  have HB0 := Lib.hid B0
  have HM0 := Lib.hid M0
  clear A0 B0 M0
  go_enter Try.func9, Try.ntmps9
  go_wp2_with fail
  refine (may_any o0 o1 o2 o3 o4 o5 o6 o7 _ rfl _).mono ?_
  rw [hR]
  rintro e w1 ⟨rfl, hb1⟩
  have A1 := Lib.hid (HA0.out.grows hb1)
  have B1 := Lib.hid (HB0.out.grows hb1)
  have M1 := Lib.hid (HM0.out.grows hb1)
  have G1 := G0.trans hb1
  have cb := B1.out.cell
  go_wp2_with fail
  refine (shardIs_any _ _).mono ?_
  rw [ht]
  rintro e w2 ⟨rfl, rfl⟩
  have cm := M1.out.cell
  have fm := M1.out.frozen
  have A3 := Lib.hid (A1.out.far (p := ⟨w.heap.size, 5, none⟩) (by simp; omega) (.int .i64 t))
  go_wp2_with (with_reducible refine wpList_store_mid (op := ⟨none, .store 22 (.tmp 4) (.tmp 31), _, _, _, none⟩) rfl 22 (.tmp 4) (.tmp 31) rfl (w.heap.size + 1 + 1) (0) #[.int .i64 o0, .int .i64 o1, .int .i64 o2, .int .i64 o3, .int .i64 o4, .int .i64 t, .int .i64 o6, .int .i64 o7] ?s10a ?s10b ?s10c ?s10d ?s10e ?_)
  case s10a => rfl
  case s10b => rfl
  case s10c => exact A3.out.there 0 8 (by simp)
  case s10d => kernel_rfl
  case s10e => exact one8 _ _ _ _ _ _ _ _
  refine bodyPost_ret (results_row_tmp Try.results9 _ _ (w.heap.size + 1 + 1) 22 _ _ rfl (At.all (vs := ints [o0, o1, o2, o3, o4, t, o6, o7]) (cs := ints [0, 0, 0, 0, 0, 0, 0, 0]) A3.out rfl) Try.underlying22 rfl (by kernel_rfl)) rfl ⟨rfl, Grows.setCells (by omega) _ _ (G1.setCell (Nat.le_refl _) _)⟩
set_option maxHeartbeats 1000000 in
theorem moved_ok6 (o0 o1 o2 o3 o4 o5 o6 o7 t : Int) (w : World) (hR : okR [o0, o1, o2, o3, o4, o5, o6, o7] = true) (ht : isS t = true) :
    Calls Try.prog 9 #[.agg #[.int .i64 o0, .int .i64 o1, .int .i64 o2, .int .i64 o3, .int .i64 o4, .int .i64 o5, .int .i64 o6, .int .i64 o7], .agg #[.int .i64 6, .int .i64 t]] w fun e w' => e = .returned (.tuple #[.agg #[.int .i64 o0, .int .i64 o1, .int .i64 o2, .int .i64 o3, .int .i64 o4, .int .i64 o5, .int .i64 t, .int .i64 o7], .int .i64 0]) ∧ Grows w w' := by
  have hz := z8
  have A0 := At.new ((w.alloc (.cells #[.int .i64 o0, .int .i64 o1, .int .i64 o2, .int .i64 o3, .int .i64 o4, .int .i64 o5, .int .i64 o6, .int .i64 o7] 22)).alloc (.cells #[.int .i64 6, .int .i64 t] 25)) 22 #[.int .i64 0, .int .i64 0, .int .i64 0, .int .i64 0, .int .i64 0, .int .i64 0, .int .i64 0, .int .i64 0]
  have B0 := ((At.new (w.alloc (.cells #[.int .i64 o0, .int .i64 o1, .int .i64 o2, .int .i64 o3, .int .i64 o4, .int .i64 o5, .int .i64 o6, .int .i64 o7] 22)) 25 #[.int .i64 6, .int .i64 t]).alloc (.cells #[.int .i64 0, .int .i64 0, .int .i64 0, .int .i64 0, .int .i64 0, .int .i64 0, .int .i64 0, .int .i64 0] 22))
  have M0 := ((At.new w 22 #[.int .i64 o0, .int .i64 o1, .int .i64 o2, .int .i64 o3, .int .i64 o4, .int .i64 o5, .int .i64 o6, .int .i64 o7]).alloc (.cells #[.int .i64 6, .int .i64 t] 25)).alloc (.cells #[.int .i64 0, .int .i64 0, .int .i64 0, .int .i64 0, .int .i64 0, .int .i64 0, .int .i64 0, .int .i64 0] 22)
  have G0 := ((((Grows.refl w).alloc (.cells #[.int .i64 o0, .int .i64 o1, .int .i64 o2, .int .i64 o3, .int .i64 o4, .int .i64 o5, .int .i64 o6, .int .i64 o7] 22)).alloc (.cells #[.int .i64 6, .int .i64 t] 25)).alloc (.cells #[.int .i64 0, .int .i64 0, .int .i64 0, .int .i64 0, .int .i64 0, .int .i64 0, .int .i64 0, .int .i64 0] 22))
  simp only [World.size_alloc] at A0 B0
  have HA0 := Lib.hid A0
  have HB0 := Lib.hid B0
  have HM0 := Lib.hid M0
  clear A0 B0 M0
  go_enter Try.func9, Try.ntmps9
  go_wp2_with fail
  refine (may_any o0 o1 o2 o3 o4 o5 o6 o7 _ rfl _).mono ?_
  rw [hR]
  rintro e w1 ⟨rfl, hb1⟩
  have A1 := Lib.hid (HA0.out.grows hb1)
  have B1 := Lib.hid (HB0.out.grows hb1)
  have M1 := Lib.hid (HM0.out.grows hb1)
  have G1 := G0.trans hb1
  have cb := B1.out.cell
  go_wp2_with fail
  refine (shardIs_any _ _).mono ?_
  rw [ht]
  rintro e w2 ⟨rfl, rfl⟩
  have cm := M1.out.cell
  have fm := M1.out.frozen
  have A3 := Lib.hid (A1.out.far (p := ⟨w.heap.size, 6, none⟩) (by simp; omega) (.int .i64 t))
  go_wp2_with (with_reducible refine wpList_store_mid (op := ⟨none, .store 22 (.tmp 4) (.tmp 31), _, _, _, none⟩) rfl 22 (.tmp 4) (.tmp 31) rfl (w.heap.size + 1 + 1) (0) #[.int .i64 o0, .int .i64 o1, .int .i64 o2, .int .i64 o3, .int .i64 o4, .int .i64 o5, .int .i64 t, .int .i64 o7] ?s11a ?s11b ?s11c ?s11d ?s11e ?_)
  case s11a => rfl
  case s11b => rfl
  case s11c => exact A3.out.there 0 8 (by simp)
  case s11d => kernel_rfl
  case s11e => exact one8 _ _ _ _ _ _ _ _
  refine bodyPost_ret (results_row_tmp Try.results9 _ _ (w.heap.size + 1 + 1) 22 _ _ rfl (At.all (vs := ints [o0, o1, o2, o3, o4, o5, t, o7]) (cs := ints [0, 0, 0, 0, 0, 0, 0, 0]) A3.out rfl) Try.underlying22 rfl (by kernel_rfl)) rfl ⟨rfl, Grows.setCells (by omega) _ _ (G1.setCell (Nat.le_refl _) _)⟩
set_option maxHeartbeats 1000000 in
theorem moved_ok7 (o0 o1 o2 o3 o4 o5 o6 o7 t : Int) (w : World) (hR : okR [o0, o1, o2, o3, o4, o5, o6, o7] = true) (ht : isS t = true) :
    Calls Try.prog 9 #[.agg #[.int .i64 o0, .int .i64 o1, .int .i64 o2, .int .i64 o3, .int .i64 o4, .int .i64 o5, .int .i64 o6, .int .i64 o7], .agg #[.int .i64 7, .int .i64 t]] w fun e w' => e = .returned (.tuple #[.agg #[.int .i64 o0, .int .i64 o1, .int .i64 o2, .int .i64 o3, .int .i64 o4, .int .i64 o5, .int .i64 o6, .int .i64 t], .int .i64 0]) ∧ Grows w w' := by
  have hz := z8
  have A0 := At.new ((w.alloc (.cells #[.int .i64 o0, .int .i64 o1, .int .i64 o2, .int .i64 o3, .int .i64 o4, .int .i64 o5, .int .i64 o6, .int .i64 o7] 22)).alloc (.cells #[.int .i64 7, .int .i64 t] 25)) 22 #[.int .i64 0, .int .i64 0, .int .i64 0, .int .i64 0, .int .i64 0, .int .i64 0, .int .i64 0, .int .i64 0]
  have B0 := ((At.new (w.alloc (.cells #[.int .i64 o0, .int .i64 o1, .int .i64 o2, .int .i64 o3, .int .i64 o4, .int .i64 o5, .int .i64 o6, .int .i64 o7] 22)) 25 #[.int .i64 7, .int .i64 t]).alloc (.cells #[.int .i64 0, .int .i64 0, .int .i64 0, .int .i64 0, .int .i64 0, .int .i64 0, .int .i64 0, .int .i64 0] 22))
  have M0 := ((At.new w 22 #[.int .i64 o0, .int .i64 o1, .int .i64 o2, .int .i64 o3, .int .i64 o4, .int .i64 o5, .int .i64 o6, .int .i64 o7]).alloc (.cells #[.int .i64 7, .int .i64 t] 25)).alloc (.cells #[.int .i64 0, .int .i64 0, .int .i64 0, .int .i64 0, .int .i64 0, .int .i64 0, .int .i64 0, .int .i64 0] 22)
  have G0 := ((((Grows.refl w).alloc (.cells #[.int .i64 o0, .int .i64 o1, .int .i64 o2, .int .i64 o3, .int .i64 o4, .int .i64 o5, .int .i64 o6, .int .i64 o7] 22)).alloc (.cells #[.int .i64 7, .int .i64 t] 25)).alloc (.cells #[.int .i64 0, .int .i64 0, .int .i64 0, .int .i64 0, .int .i64 0, .int .i64 0, .int .i64 0, .int .i64 0] 22))
  simp only [World.size_alloc] at A0 B0
  have HA0 := Lib.hid A0
  have HB0 := Lib.hid B0
  have HM0 := Lib.hid M0
  clear A0 B0 M0
  go_enter Try.func9, Try.ntmps9
  go_wp2_with fail
  refine (may_any o0 o1 o2 o3 o4 o5 o6 o7 _ rfl _).mono ?_
  rw [hR]
  rintro e w1 ⟨rfl, hb1⟩
  have A1 := Lib.hid (HA0.out.grows hb1)
  have B1 := Lib.hid (HB0.out.grows hb1)
  have M1 := Lib.hid (HM0.out.grows hb1)
  have G1 := G0.trans hb1
  have cb := B1.out.cell
  go_wp2_with fail
  refine (shardIs_any _ _).mono ?_
  rw [ht]
  rintro e w2 ⟨rfl, rfl⟩
  have cm := M1.out.cell
  have fm := M1.out.frozen
  have A3 := Lib.hid (A1.out.far (p := ⟨w.heap.size, 7, none⟩) (by simp; omega) (.int .i64 t))
  go_wp2_with (with_reducible refine wpList_store_mid (op := ⟨none, .store 22 (.tmp 4) (.tmp 31), _, _, _, none⟩) rfl 22 (.tmp 4) (.tmp 31) rfl (w.heap.size + 1 + 1) (0) #[.int .i64 o0, .int .i64 o1, .int .i64 o2, .int .i64 o3, .int .i64 o4, .int .i64 o5, .int .i64 o6, .int .i64 t] ?s12a ?s12b ?s12c ?s12d ?s12e ?_)
  case s12a => rfl
  case s12b => rfl
  case s12c => exact A3.out.there 0 8 (by simp)
  case s12d => kernel_rfl
  case s12e => exact one8 _ _ _ _ _ _ _ _
  refine bodyPost_ret (results_row_tmp Try.results9 _ _ (w.heap.size + 1 + 1) 22 _ _ rfl (At.all (vs := ints [o0, o1, o2, o3, o4, o5, o6, t]) (cs := ints [0, 0, 0, 0, 0, 0, 0, 0]) A3.out rfl) Try.underlying22 rfl (by kernel_rfl)) rfl ⟨rfl, Grows.setCells (by omega) _ _ (G1.setCell (Nat.le_refl _) _)⟩

def MovedOk (w : World) (M : List Int) (s : Nat) (t : Int) (e : Ending) (w' : World) : Prop :=
  ∃ p0 p1 p2 p3 p4 p5 p6 p7 : Int, e = .returned (.tuple #[.agg #[.int .i64 p0, .int .i64 p1, .int .i64 p2, .int .i64 p3, .int .i64 p4, .int .i64 p5, .int .i64 p6, .int .i64 p7], .int .i64 0]) ∧ [p0, p1, p2, p3, p4, p5, p6, p7] = M.set s t ∧ Grows w w'
theorem movedOk_bd {M : List Int} {s t : Int} (h : movedOk M s t = true) : okR M = true ∧ 0 ≤ s ∧ s < 8 ∧ isS t = true := by
  simp [movedOk] at h
  exact ⟨h.1.1, h.1.2.1, h.1.2.2, h.2⟩
theorem moved_ok (o0 o1 o2 o3 o4 o5 o6 o7 s t : Int) (w : World) (h : movedOk [o0, o1, o2, o3, o4, o5, o6, o7] s t = true) :
    Calls Try.prog 9 #[.agg #[.int .i64 o0, .int .i64 o1, .int .i64 o2, .int .i64 o3, .int .i64 o4, .int .i64 o5, .int .i64 o6, .int .i64 o7], .agg #[.int .i64 s, .int .i64 t]] w (MovedOk w [o0, o1, o2, o3, o4, o5, o6, o7] s.toNat t) := by
  obtain ⟨hR, h1, h2, ht⟩ := movedOk_bd h
  have h8 : s = 0 ∨ s = 1 ∨ s = 2 ∨ s = 3 ∨ s = 4 ∨ s = 5 ∨ s = 6 ∨ s = 7 := by omega
  rcases h8 with rfl | rfl | rfl | rfl | rfl | rfl | rfl | rfl
  · exact (moved_ok0 o0 o1 o2 o3 o4 o5 o6 o7 t w hR ht).mono fun e w' ⟨h1, h2⟩ => ⟨t, o1, o2, o3, o4, o5, o6, o7, h1, rfl, h2⟩
  · exact (moved_ok1 o0 o1 o2 o3 o4 o5 o6 o7 t w hR ht).mono fun e w' ⟨h1, h2⟩ => ⟨o0, t, o2, o3, o4, o5, o6, o7, h1, rfl, h2⟩
  · exact (moved_ok2 o0 o1 o2 o3 o4 o5 o6 o7 t w hR ht).mono fun e w' ⟨h1, h2⟩ => ⟨o0, o1, t, o3, o4, o5, o6, o7, h1, rfl, h2⟩
  · exact (moved_ok3 o0 o1 o2 o3 o4 o5 o6 o7 t w hR ht).mono fun e w' ⟨h1, h2⟩ => ⟨o0, o1, o2, t, o4, o5, o6, o7, h1, rfl, h2⟩
  · exact (moved_ok4 o0 o1 o2 o3 o4 o5 o6 o7 t w hR ht).mono fun e w' ⟨h1, h2⟩ => ⟨o0, o1, o2, o3, t, o5, o6, o7, h1, rfl, h2⟩
  · exact (moved_ok5 o0 o1 o2 o3 o4 o5 o6 o7 t w hR ht).mono fun e w' ⟨h1, h2⟩ => ⟨o0, o1, o2, o3, o4, t, o6, o7, h1, rfl, h2⟩
  · exact (moved_ok6 o0 o1 o2 o3 o4 o5 o6 o7 t w hR ht).mono fun e w' ⟨h1, h2⟩ => ⟨o0, o1, o2, o3, o4, o5, t, o7, h1, rfl, h2⟩
  · exact (moved_ok7 o0 o1 o2 o3 o4 o5 o6 o7 t w hR ht).mono fun e w' ⟨h1, h2⟩ => ⟨o0, o1, o2, o3, o4, o5, o6, t, h1, rfl, h2⟩
end Go.Proofs.Ytmoploenbppdbaa
