/-
  graph.Deep, Circle, Young; cashboxref12.Names; the law's helpers.
-/
import Derived.Test.YtpllcjggjjapoaaGrH
import Derived.Test.YtpllcjggjjapoaaFlat
namespace Go.Proofs.Ytpllcjggjjapoaa
open Go.RowKit Go.Maps Go.ChangeMaps Go.MapKept Go.WideElems

/-- The value that Deep tells. -/
noncomputable def dpv (E : List Ed) : Int := Classical.epsilon (fun v => DeepS E v)
theorem dpv_eq {E : List Ed} {v : Int} (h : DeepS E v) : dpv E = v := by
  have hex : ∃ v, DeepS E v := ⟨v, h⟩
  exact DeepS.eq (fun _ => Iff.rfl) (Classical.epsilon_spec hex) h
theorem deepv_any (E : List Ed) (n : Nat) (hn : E.length = n) (hL : n ≤ 200) (hok : ∀ e ∈ E, e.1.ok ∧ e.2.ok) (a : Option Addr) (cap : Nat) (w : World) (hr : Rd w a (rowsOf Edcs E)) : Calls Try.prog 11 #[.slice a n cap] w fun e w' => e = .returned (.int .i64 (dpv E)) ∧ DeepS E (dpv E) ∧ Grows w w' := by
  refine (deep_any E n hn hL hok a cap w hr).mono ?_
  rintro e w' ⟨v, rfl, h1, h2⟩
  rw [dpv_eq h1]
  exact ⟨rfl, h1, h2⟩
theorem Deep_any (E : List Ed) (n : Nat) (hn : E.length = n) (hL : n ≤ 200) (hok : ∀ e ∈ E, e.1.ok ∧ e.2.ok) (a : Option Addr) (cap : Nat) (w : World) (hr : Rd w a (rowsOf Edcs E)) : Calls Try.prog 7 #[.slice a n cap] w fun e w' => e = .returned (.int .i64 (dpv E)) ∧ DeepS E (dpv E) ∧ Grows w w' := by
  have HD := Lib.hid (deepv_any E n hn hL hok a cap w hr)
  clear hn hok hr
  have hb : ¬ (200 : Int) < (n : Int) := by omega
  go_enter Try.func7, Try.ntmps7
  go_wp2_with fail
  refine HD.out.mono ?_
  rintro e w1 ⟨rfl, h1, h2⟩
  have H1 := Lib.hid h1
  have H2 := Lib.hid h2
  clear h1 h2 HD
  go_wp2_with fail
  go_ret
  exact ⟨rfl, H1.out, H2.out⟩
theorem Circle_any (E : List Ed) (n : Nat) (hn : E.length = n) (hL : n ≤ 200) (hok : ∀ e ∈ E, e.1.ok ∧ e.2.ok) (a : Option Addr) (cap : Nat) (w : World) (hr : Rd w a (rowsOf Edcs E)) : Calls Try.prog 5 #[.slice a n cap] w fun e w' => e = .returned (.bool (decide (dpv E < 0))) ∧ DeepS E (dpv E) ∧ Grows w w' := by
  have HD := Lib.hid (deepv_any E n hn hL hok a cap w hr)
  clear hn hok hr
  have hb : (n : Int) ≤ (200 : Int) := by omega
  go_enter Try.func5, Try.ntmps5
  go_wp2_with fail
  refine HD.out.mono ?_
  rintro e w1 ⟨rfl, h1, h2⟩
  have H1 := Lib.hid h1
  have H2 := Lib.hid h2
  clear h1 h2 HD
  go_wp2_with fail
  go_ret
  exact ⟨rfl, H1.out, H2.out⟩
def yng (E : List Ed) : Bool := E.all fun e => decide (e.1.s < e.2.s)
set_option maxHeartbeats 1000000 in
theorem Young_any (E : List Ed) (n : Nat) (hn : E.length = n) (hL : n ≤ 200) (a : Option Addr) (cap : Nat) (w : World) (hr : Rd w a (rowsOf Edcs E)) : Calls Try.prog 6 #[.slice a n cap] w fun e w' => e = .returned (.bool (yng E)) ∧ Grows w w' := by
  have HR := Lib.hid hr
  have HN := Lib.hid hn
  have HO := Lib.hid (fun (x y : Nm) W => older_any x y W)
  unfold Nm.v at HO
  clear hn hr
  have hb : ¬ (200 : Int) < (n : Int) := by omega
  go_enter Try.func6, Try.ntmps6
  go_wp2_with fail
  go_loopg [10] n (fun gh v10 wr => ∃ i : Nat, gh + i = n ∧ v10 = .int .i64 (i : Int) ∧ (∀ e ∈ E.take i, e.1.s < e.2.s) ∧ Grows w wr)
  case atStart => exact ⟨0, by omega, rfl, (fun e he => by simp at he), Grows.refl _⟩
  case round =>
    obtain ⟨i, hgi, rfl, hall, hg⟩ := hrel
    have HALL := Lib.hid hall
    have HG := Lib.hid hg
    clear hall hg
    by_cases hlt : i < n
    · have hil : i < E.length := by rw [HN.out]; exact hlt
      obtain ⟨g, off, rfl, hgw, c0, c1, c2, c3, c4, c5⟩ := edges_cell (HR.out.grows HG.out) hil
      have HEM := Lib.hid (List.getElem_mem hil)
      have HTK : Hid (E.take (i + 1) = E.take i ++ [E[i]]) := Lib.hid (by rw [List.take_add_one, List.getElem?_eq_getElem hil]; rfl)
      generalize E[i] = ed at *
      obtain ⟨x, y⟩ := ed
      simp only at c0 c1 c2 c3 c4 c5
      have hi1 : (i : Int) < (n : Int) := by omega
      clear hgw hil
      go_wp2_with fail
      refine (HO.out x y _).mono ?_
      rintro e w2 ⟨rfl, hg⟩
      have HG2 := Lib.hid ((HG.out.alloc (.cells #[.int .i64 x.s, .int .i64 x.i, .int .i64 x.t, .int .i64 y.s, .int .i64 y.i, .int .i64 y.t] 32)).trans hg)
      clear hg c0 c1 c2 c3 c4 c5
      by_cases ho : x.s < y.s
      · have ho' : decide (x.s < y.s) = true := by simpa using ho
        rw [ho']
        have HO2 := Lib.hid ho
        clear ho ho'
        go_wp2_with fail
        go_roundg (gk - 1)
        case measure => omega
        case rel => exact ⟨i + 1, by omega, by go_num, fun e he => by
          rw [HTK.out] at he
          rcases List.mem_append.1 he with he | he
          · exact HALL.out e he
          · rw [List.mem_singleton.1 he]; exact HO2.out, HG2.out⟩
      · have ho' : decide (x.s < y.s) = false := by simpa using ho
        rw [ho']
        have HY : Hid (yng E = false) := Lib.hid (by unfold yng; rw [List.all_eq_false]; exact ⟨_, HEM.out, by simpa using ho⟩)
        clear ho ho'
        go_wp2_with fail
        go_ret
        exact ⟨by rw [HY.out]; rfl, HG2.out⟩
    · have hge : ¬ (i : Int) < (n : Int) := by omega
      have HY : Hid (yng E = true) := Lib.hid (by unfold yng; rw [List.all_eq_true]; exact fun e he => by have := HALL.out e (by rw [List.take_of_length_le (by have := HN.out; omega)]; exact he); simpa using this)
      clear hlt
      go_wp2_with fail
      go_ret
      exact ⟨by rw [HY.out]; rfl, HG.out⟩
set_option maxHeartbeats 1000000 in
/-- Names of a list and itself. -/
theorem names_same (l : List Nm) (hl : l.length ≤ 1000) (a b : Option Addr) (c c' : Nat) (w : World) (h1 : Rd w a (nms l)) (h2 : Rd w b (nms l)) :
    Calls Try.prog 9 #[.slice a l.length c, .slice b l.length c'] w fun e w' => e = .returned (.bool true) ∧ Grows w w' := by
  have H1 := Lib.hid h1
  have H2 := Lib.hid h2
  obtain ⟨n, hn⟩ : ∃ n, l.length = n := ⟨_, rfl⟩
  rw [hn] at hl ⊢
  have HN := Lib.hid hn
  have he := eqn_any
  clear h1 h2 hn
  go_enter Try.func9, Try.ntmps9
  go_wp2_with fail
  go_loopg [5] n (fun gh v5 wr => ∃ i : Nat, gh + i = n ∧ v5 = .int .i64 (i : Int) ∧ Grows w wr)
  case atStart => exact ⟨0, by omega, rfl, Grows.refl _⟩
  case round =>
    obtain ⟨i, hgi, rfl, hg⟩ := hrel
    have HG := Lib.hid hg
    clear hg
    by_cases hlt : i < n
    · have hil : i < l.length := by rw [HN.out]; exact hlt
      obtain ⟨g, o, rfl, _, c0, c1, c2⟩ := cells3 (H1.out.grows HG.out) hil
      obtain ⟨g', o', rfl, _, d0, d1, d2⟩ := cells3 (H2.out.grows HG.out) hil
      generalize l[i] = x at *
      have hd : decide (x = x) = true := by simp
      have hi1 : (i : Int) < (n : Int) := by omega
      have hi0 : (0 : Int) ≤ (i : Int) := by omega
      clear hil
      go_wp2_with fail
      go_quiet (fail)
      go_wp2_with fail
      go_roundg (gk - 1)
      case measure => omega
      case rel => exact ⟨i + 1, by omega, by go_num, HG.out.drewN _⟩
    · have hge : ¬ (i : Int) < (n : Int) := by omega
      clear hlt
      go_wp2_with fail
      go_ret
      exact ⟨rfl, HG.out⟩
theorem name_any (n : Int) (w : World) : Calls Try.prog 17 #[.int .i64 n] w fun e w' => e = .returned (.agg #[.int .i64 n, .int .i64 1, .int .i64 1]) ∧ Grows w w' := by
  have hz := zname
  go_enter Try.func17, Try.ntmps17
  go_wp2_with fail
  refine bodyPost_ret (results_cell_row Try.results17 _ _ w.heap.size 24 _ (0, 0) _ rfl (At.new w 24 #[.int .i64 n, .int .i64 1, .int .i64 1]) Try.underlying24 rfl (by kernel_rfl)) rfl ⟨rfl, (Grows.refl _).alloc _⟩
theorem zedge (W : World) : (zeroValue 32).run Try.prog W = .ok (.agg #[.int .i64 0, .int .i64 0, .int .i64 0, .int .i64 0, .int .i64 0, .int .i64 0]) W := by kernel_rfl
theorem edge_any (x y : Int) (w : World) : Calls Try.prog 10 #[.int .i64 x, .int .i64 y] w fun e w' => e = .returned (.agg #[.int .i64 x, .int .i64 1, .int .i64 1, .int .i64 y, .int .i64 1, .int .i64 1]) ∧ Grows w w' := by
  have hz := zedge
  have HA := Lib.hid (At.new w 32 #[.int .i64 0, .int .i64 0, .int .i64 0, .int .i64 0, .int .i64 0, .int .i64 0])
  go_enter Try.func10, Try.ntmps10
  go_wp2_with fail
  refine (name_any _ _).mono ?_
  rintro e w1 ⟨rfl, h1⟩
  have HG1 := Lib.hid (((Grows.refl w).alloc (.cells #[.int .i64 0, .int .i64 0, .int .i64 0, .int .i64 0, .int .i64 0, .int .i64 0] 32)).trans h1)
  have HA1 := Lib.hid (HA.out.grows h1)
  clear h1
  go_wp2_with fail
  refine (name_any _ _).mono ?_
  rintro e w2 ⟨rfl, h1⟩
  have HG2 := Lib.hid (HG1.out.trans h1)
  have HA2 := Lib.hid (HA1.out.grows h1)
  clear h1
  go_wp2_with (with_reducible refine wpList_store_mid (op := ⟨none, .store 32 (.tmp 4) (.tmp 9), _, _, _, none⟩) rfl 32 (.tmp 4) (.tmp 9) rfl w.heap.size 0 #[.int .i64 x, .int .i64 1, .int .i64 1, .int .i64 y, .int .i64 1, .int .i64 1] ?s1a ?s1b ?s1c ?s1d ?s1e ?_)
  case s1a => rfl
  case s1b => rfl
  case s1c => exact HA2.out.there 0 6 (by simp)
  case s1d => kernel_rfl
  case s1e => simp [Value.oneCell']
  refine bodyPost_ret (results_cell_row Try.results10 _ _ w.heap.size 32 _ (0, 0) _ rfl (At.all (vs := [.int .i64 x, .int .i64 1, .int .i64 1, .int .i64 y, .int .i64 1, .int .i64 1]) (cs := [.int .i64 0, .int .i64 0, .int .i64 0, .int .i64 0, .int .i64 0, .int .i64 0]) HA2.out rfl) Try.underlying32 rfl (by kernel_rfl)) rfl ⟨rfl, Grows.setCells (Nat.le_refl _) _ _ HG2.out⟩
end Go.Proofs.Ytpllcjggjjapoaa
