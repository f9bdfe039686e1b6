/-
  stripe.All.
-/
import Derived.Test.YtimafdiljcglfaaStF
namespace Go.Proofs.Ytimafdiljcglfaa
open Go.RowKit

/-- A map's entries after changes of D to those of B. -/
def app (B : List Int) (A : List Int) (D : List Nat) : List Int := D.foldl (fun M i => M.set i (B.getD i 0)) A
theorem app_snoc (B A : List Int) (D : List Nat) (i : Nat) : app B A (D ++ [i]) = (app B A D).set i (B.getD i 0) := by simp [app]
theorem app_len (B : List Int) : ∀ (D : List Nat) (A : List Int), (app B A D).length = A.length
  | [], _ => rfl
  | i :: D, A => by rw [app, List.foldl_cons]; exact (app_len B D _).trans (List.length_set)
theorem app_get (B : List Int) (j : Nat) : ∀ (D : List Nat) (A : List Int), (∀ i ∈ D, i < A.length) → (app B A D).getD j 0 = if j ∈ D then B.getD j 0 else A.getD j 0
  | [], A, _ => by simp [app]
  | i :: D, A, h => by
    have ih := app_get B j D (A.set i (B.getD i 0)) (by intro k hk; rw [List.length_set]; exact h k (List.mem_cons_of_mem _ hk))
    rw [app, List.foldl_cons]
    refine ih.trans ?_
    by_cases h1 : j ∈ D
    · rw [if_pos h1, if_pos (List.mem_cons_of_mem _ h1)]
    · rw [if_neg h1]
      by_cases h2 : j = i
      · subst h2
        rw [if_pos (List.mem_cons_self), getD_set_eq (h j List.mem_cons_self)]
      · rw [if_neg (by simp [h1, h2]), getD_set_ne (Ne.symm h2)]
theorem app_dfs (A B : List Int) (hA : A.length = 8) (hB : B.length = 8) : app B A (dfs A B 8) = B := by
  have hl := app_len B (dfs A B 8) A
  apply List.ext_getElem (by omega)
  intro j h1 h2
  have hg := app_get B j (dfs A B 8) A (fun i hi => by have := dfs_lt hi; omega)
  rw [List.getD_eq_getElem?_getD, List.getElem?_eq_getElem h1, List.getD_eq_getElem?_getD, List.getElem?_eq_getElem h2, List.getD_eq_getElem?_getD, List.getElem?_eq_getElem (show j < A.length by omega)] at hg
  simp only [Option.getD_some] at hg
  rw [hg]
  by_cases h : j ∈ dfs A B 8
  · rw [if_pos h]
  · rw [if_neg h]
    have := mt dfs_mem.2 h
    rw [List.getD_eq_getElem?_getD, List.getD_eq_getElem?_getD, List.getElem?_eq_getElem h2, List.getElem?_eq_getElem (show j < A.length by omega)] at this
    simp only [Option.getD_some, not_and, Decidable.not_not] at this
    exact this (by omega)

/-- What All answers. -/
def AllPost (w : World) (v : Int) (M : List Int) (n : Nat) (e : Ending) (w' : World) : Prop :=
  Grows w w' ∧ ((v + n ≤ 1099511627776 ∧ ∃ p0 p1 p2 p3 p4 p5 p6 p7, e = .returned (.tuple #[mpv (v + n) p0 p1 p2 p3 p4 p5 p6 p7, .int .i64 n, .int .i64 0]) ∧ [p0, p1, p2, p3, p4, p5, p6, p7] = M) ∨
    (1099511627776 < v + n ∧ ∃ x y p0 p1 p2 p3 p4 p5 p6 p7, e = .returned (.tuple #[mpv x p0 p1 p2 p3 p4 p5 p6 p7, y, .int .i64 50])))
theorem oneCh (s t : Int) : (#[.int .i64 s, .int .i64 t] : Array Value).all (·.oneCell') = true := all_oneCell_toArray (one_ints .i64 [s, t])

set_option maxRecDepth 10000 in
set_option maxHeartbeats 2000000 in
theorem All_any (v o0 o1 o2 o3 o4 o5 o6 o7 : Int) (A B : List Int) (hA : [o0, o1, o2, o3, o4, o5, o6, o7] = A) (hok : okM v A = true) (D : List Nat) (m : Nat) (hm : D.length = m) (hD : ∀ i ∈ D, i < 8 ∧ 1 ≤ B.getD i 0 ∧ B.getD i 0 ≤ 4) (hm8 : m ≤ 8) (a : Option Addr) (cap : Nat) (w : World) (hrd : Rd w a (rowsOf (chc B) D)) :
    Calls Try.prog 13 #[mpv v o0 o1 o2 o3 o4 o5 o6 o7, .slice a m cap] w (AllPost w v (app B A D) m) := by
  have hK : ∀ W, Calls Try.prog 8 #[mpv v o0 o1 o2 o3 o4 o5 o6 o7] W fun e w' => e = .returned (.int .i64 0) ∧ Grows W w' := fun W => by
    have := check_any v o0 o1 o2 o3 o4 o5 o6 o7 W
    rw [hA, show checkE v A = 0 by simp [checkE, hok]] at this
    exact this
  have hv0 := (okM_bd hok).1
  have HK := Lib.hid hK
  have HOK := Lib.hid hok
  have HA := Lib.hid hA
  have HD := Lib.hid hD
  have Hrd := Lib.hid hrd
  have HM := Lib.hid hm
  clear hK hok hA hD hrd hm
  have hz := zmap
  unfold mpv at *
  have A0 := Lib.hid ((At.new w 24 #[.int .i64 v, .int .i64 o0, .int .i64 o1, .int .i64 o2, .int .i64 o3, .int .i64 o4, .int .i64 o5, .int .i64 o6, .int .i64 o7]).alloc (.cells #[.int .i64 0, .int .i64 0, .int .i64 0, .int .i64 0, .int .i64 0, .int .i64 0, .int .i64 0, .int .i64 0, .int .i64 0] 24))
  have B0 := At.new (w.alloc (.cells #[.int .i64 v, .int .i64 o0, .int .i64 o1, .int .i64 o2, .int .i64 o3, .int .i64 o4, .int .i64 o5, .int .i64 o6, .int .i64 o7] 24)) 24 #[.int .i64 0, .int .i64 0, .int .i64 0, .int .i64 0, .int .i64 0, .int .i64 0, .int .i64 0, .int .i64 0, .int .i64 0]
  simp only [World.size_alloc] at B0
  have B0 := Lib.hid B0
  have G0 := (((Grows.refl w).alloc (.cells #[.int .i64 v, .int .i64 o0, .int .i64 o1, .int .i64 o2, .int .i64 o3, .int .i64 o4, .int .i64 o5, .int .i64 o6, .int .i64 o7] 24)).alloc (.cells #[.int .i64 0, .int .i64 0, .int .i64 0, .int .i64 0, .int .i64 0, .int .i64 0, .int .i64 0, .int .i64 0, .int .i64 0] 24))
  go_enter Try.func13, Try.ntmps13
  go_wp2_with fail
  refine (HK.out _).mono ?_
  rintro e w1 ⟨rfl, hb1⟩
  have A1 := Lib.hid (A0.out.grows hb1)
  have B1 := Lib.hid (B0.out.grows hb1)
  have G1 := G0.trans hb1
  clear A0 B0
  go_wp2_with fail
  go_loopg [20] m (fun gh i wr => ∃ (k : Nat) (p0 p1 p2 p3 p4 p5 p6 p7 : Int), k + gh = m ∧ i = .int .i64 (k : Int) ∧ [p0, p1, p2, p3, p4, p5, p6, p7] = app B A (D.take k) ∧ okM (v + k) [p0, p1, p2, p3, p4, p5, p6, p7] = true ∧ At wr w.heap.size 24 #[.int .i64 (v + k), .int .i64 p0, .int .i64 p1, .int .i64 p2, .int .i64 p3, .int .i64 p4, .int .i64 p5, .int .i64 p6, .int .i64 p7] ∧ At wr (w.heap.size + 1) 24 #[.int .i64 0, .int .i64 0, .int .i64 0, .int .i64 0, .int .i64 0, .int .i64 0, .int .i64 0, .int .i64 0, .int .i64 0] ∧ Grows w wr)
  case atStart => exact ⟨0, o0, o1, o2, o3, o4, o5, o6, o7, by omega, rfl, HA.out, by rw [HA.out]; simpa using HOK.out, by simpa using A1.out, B1.out, G1⟩
  case round =>
    obtain ⟨k, p0, p1, p2, p3, p4, p5, p6, p7, hk, rfl, hp, hokp, hAt, hBt, hg⟩ := hrel
    have HP := Lib.hid hp
    have HOP := Lib.hid hokp
    have HAt := Lib.hid hAt
    have HBt := Lib.hid hBt
    have hvb := (okM_bd hokp).2.1
    clear hp hokp hAt hBt
    by_cases hlt : k < m
    · have hkl : k < D.length := by rw [HM.out]; exact hlt
      obtain ⟨gd, od, rfl, hgd, hcd⟩ := rows_cell (chc_len B) (by omega) (Hrd.out.grows hg) hkl
      have hi8 := HD.out D[k] (List.getElem_mem hkl)
      have HTS := Lib.hid (List.take_succ_eq_append_getElem hkl)
      generalize D[k] = i at *
      have hc0 : wr.cell? ⟨gd, od + k * 2, none⟩ = some (.int .i64 (i : Int)) := hcd 0 _ rfl
      have hc1 : wr.cell? ⟨gd, od + k * 2 + 1, none⟩ = some (.int .i64 (B.getD i 0)) := hcd 1 _ rfl
      clear hcd
      have HSN := Lib.hid (app_snoc B A (D.take k) i)
      generalize B.getD i 0 = x at *
      have hlt' : (k : Int) < (m : Int) := by omega
      have hk0 : (0 : Int) ≤ (k : Int) := by omega
      have cm := (HAt.out.alloc (.cells #[.int .i64 (i : Int), .int .i64 x] 26)).cell
      by_cases hfull : v + k = 1099511627776
      · have hE : changeE (v + k) [p0, p1, p2, p3, p4, p5, p6, p7] i x = 50 := by
          unfold changeE
          rw [HOP.out, show mayB i x = true by simp [mayB, withinB]; omega]
          simp [hfull]
        have HB := Lib.hid (fun W => change_bad (v + k) p0 p1 p2 p3 p4 p5 p6 p7 (i : Int) x W (by rw [hE]; decide))
        rw [hE] at HB
        unfold mpv at HB
        clear hE
        have HFU := Lib.hid hfull
        clear hfull
        go_wp2_with fail
        refine (HB.out _).mono ?_
        rintro e w3 ⟨rfl, hb3⟩
        have A3 := Lib.hid (((HAt.out.alloc (.cells #[.int .i64 (i : Int), .int .i64 x] 26)).grows hb3).alloc (.cells #[.int .i64 0, .int .i64 0, .int .i64 0, .int .i64 0, .int .i64 0, .int .i64 0, .int .i64 0, .int .i64 0, .int .i64 0] 24))
        have B3 := Lib.hid (((HBt.out.alloc (.cells #[.int .i64 (i : Int), .int .i64 x] 26)).grows hb3).alloc (.cells #[.int .i64 0, .int .i64 0, .int .i64 0, .int .i64 0, .int .i64 0, .int .i64 0, .int .i64 0, .int .i64 0, .int .i64 0] 24))
        have G3 := ((hg.alloc (.cells #[.int .i64 (i : Int), .int .i64 x] 26)).trans hb3).alloc (.cells #[.int .i64 0, .int .i64 0, .int .i64 0, .int .i64 0, .int .i64 0, .int .i64 0, .int .i64 0, .int .i64 0, .int .i64 0] 24)
        clear cm
        have cm := A3.out.cell
        go_wp2_with (with_reducible refine wpList_store_mid (op := ⟨none, .store 24 (.tmp 4) (.tmp 33), _, _, _, none⟩) rfl 24 (.tmp 4) (.tmp 33) rfl (w.heap.size + 1) (0) #[.int .i64 (v + k), .int .i64 p0, .int .i64 p1, .int .i64 p2, .int .i64 p3, .int .i64 p4, .int .i64 p5, .int .i64 p6, .int .i64 p7] ?s1a ?s1b ?s1c ?s1d ?s1e ?_)
        case s1a => rfl
        case s1b => rfl
        case s1c => exact B3.out.there 0 9 (by simp)
        case s1d => kernel_rfl
        case s1e => exact one9 _ _ _ _ _ _ _ _ _
        refine bodyPost_ret (results_row_tmp2 Try.results13 _ _ (w.heap.size + 1) 24 _ _ rfl (At.all (vs := ints [(v + k), p0, p1, p2, p3, p4, p5, p6, p7]) (cs := ints [0, 0, 0, 0, 0, 0, 0, 0, 0]) B3.out rfl) Try.underlying24 rfl (by kernel_rfl)) rfl ⟨Grows.setCells (by omega) _ _ G3, .inr ⟨by have := HFU.out; omega, v + k, _, p0, p1, p2, p3, p4, p5, p6, p7, rfl⟩⟩
      · have hE : changeE (v + k) [p0, p1, p2, p3, p4, p5, p6, p7] i x = 0 := by
          unfold changeE
          rw [HOP.out, show mayB i x = true by simp [mayB, withinB]; omega]
          simp [hfull]
        have HB := Lib.hid (fun W => change_ok (v + k) p0 p1 p2 p3 p4 p5 p6 p7 (i : Int) x W hE)
        have HOK2 := Lib.hid (okM_set (i := i) (t := x) HOP.out hi8.2 (by omega))
        unfold ChangeOk at HB
        unfold mpv at HB
        clear hE
        go_wp2_with fail
        refine (HB.out _).mono ?_
        rintro e w3 ⟨q0, q1, q2, q3, q4, q5, q6, q7, rfl, hq, hb3⟩
        have HQ := Lib.hid hq
        clear hq
        have A3 := Lib.hid (((HAt.out.alloc (.cells #[.int .i64 (i : Int), .int .i64 x] 26)).grows hb3).alloc (.cells #[.int .i64 (v + k + 1), .int .i64 q0, .int .i64 q1, .int .i64 q2, .int .i64 q3, .int .i64 q4, .int .i64 q5, .int .i64 q6, .int .i64 q7] 24))
        have B3 := Lib.hid (((HBt.out.alloc (.cells #[.int .i64 (i : Int), .int .i64 x] 26)).grows hb3).alloc (.cells #[.int .i64 (v + k + 1), .int .i64 q0, .int .i64 q1, .int .i64 q2, .int .i64 q3, .int .i64 q4, .int .i64 q5, .int .i64 q6, .int .i64 q7] 24))
        have G3 := ((hg.alloc (.cells #[.int .i64 (i : Int), .int .i64 x] 26)).trans hb3).alloc (.cells #[.int .i64 (v + k + 1), .int .i64 q0, .int .i64 q1, .int .i64 q2, .int .i64 q3, .int .i64 q4, .int .i64 q5, .int .i64 q6, .int .i64 q7] 24)
        clear cm
        go_wp2_with (with_reducible refine wpList_store_mid (op := ⟨none, .store 24 (.tmp 2) (.tmp 36), _, _, _, none⟩) rfl 24 (.tmp 2) (.tmp 36) rfl (w.heap.size) (0) #[.int .i64 (v + k + 1), .int .i64 q0, .int .i64 q1, .int .i64 q2, .int .i64 q3, .int .i64 q4, .int .i64 q5, .int .i64 q6, .int .i64 q7] ?s2a ?s2b ?s2c ?s2d ?s2e ?_)
        case s2a => rfl
        case s2b => rfl
        case s2c => exact A3.out.there 0 9 (by simp)
        case s2d => kernel_rfl
        case s2e => exact one9 _ _ _ _ _ _ _ _ _
        go_wp2_with fail
        go_roundg (gk - 1)
        case measure => omega
        case rel =>
          refine ⟨k + 1, q0, q1, q2, q3, q4, q5, q6, q7, by omega, by go_num, ?_, ?_, ?_, B3.out.keep (by omega) _ _, Grows.setCells (by omega) _ _ G3⟩
          · rw [HQ.out, HTS.out, HSN.out, HP.out]; rfl
          · rw [HQ.out, show v + ((k + 1 : Nat) : Int) = v + k + 1 by omega]; exact HOK2.out
          · rw [show v + ((k + 1 : Nat) : Int) = v + k + 1 by omega]
            exact At.all (vs := ints [(v + k + 1), q0, q1, q2, q3, q4, q5, q6, q7]) (cs := ints [(v + k), p0, p1, p2, p3, p4, p5, p6, p7]) A3.out rfl
    · obtain rfl : k = m := by omega
      have hP := HP.out
      rw [List.take_of_length_le (by rw [HM.out]; exact Nat.le_refl _)] at hP
      have HP2 := Lib.hid hP
      clear hP
      have cm := HAt.out.cell
      go_wp2_with (with_reducible refine wpList_store_mid (op := ⟨none, .store 24 (.tmp 4) (.tmp 38), _, _, _, none⟩) rfl 24 (.tmp 4) (.tmp 38) rfl (w.heap.size + 1) (0) #[.int .i64 (v + k), .int .i64 p0, .int .i64 p1, .int .i64 p2, .int .i64 p3, .int .i64 p4, .int .i64 p5, .int .i64 p6, .int .i64 p7] ?s3a ?s3b ?s3c ?s3d ?s3e ?_)
      case s3a => rfl
      case s3b => rfl
      case s3c => exact HBt.out.there 0 9 (by simp)
      case s3d => kernel_rfl
      case s3e => exact one9 _ _ _ _ _ _ _ _ _
      refine bodyPost_ret (results_row_tmp2 Try.results13 _ _ (w.heap.size + 1) 24 _ _ rfl (At.all (vs := ints [(v + k), p0, p1, p2, p3, p4, p5, p6, p7]) (cs := ints [0, 0, 0, 0, 0, 0, 0, 0, 0]) HBt.out rfl) Try.underlying24 rfl (by kernel_rfl)) rfl ⟨Grows.setCells (by omega) _ _ hg, .inl ⟨by omega, p0, p1, p2, p3, p4, p5, p6, p7, rfl, HP2.out⟩⟩
end Go.Proofs.Ytimafdiljcglfaa
