/-
  graph.deep, Deep, Circle, Young.
-/
import Derived.Test.YtpllcjggjjapoaaGrG
namespace Go.Proofs.Ytpllcjggjjapoaa
open Go.RowKit Go.Maps Go.ChangeMaps Go.MapKept Go.WideElems

theorem deep_fin {E : List Ed} {K U : List Nm} {d : Nm → Nat} (h : Inv E K U d) {v : Nat} (h1 : ∀ e ∈ E, e.1 ∈ K ∧ d e.1 ≤ v) (h2 : v = 0 ∨ ∃ e ∈ E, v = d e.1) : DeepS E v := by
  right
  refine ⟨v, rfl, ?_, fun n k p => ?_⟩
  · rcases h2 with rfl | ⟨e, he, rfl⟩
    · exact ⟨⟨0, 0, 0⟩, .nil _⟩
    · exact ⟨e.1, h.ht.path _ _ (h1 e he).1 rfl⟩
  · cases p with
    | nil => exact Nat.zero_le _
    | cons h3 p =>
      obtain ⟨h4, h5⟩ := h1 _ h3
      have := h.ht.le (Path.cons h3 p) h4
      simp only at h5
      omega
theorem mkKnown (W : World) : (Instr.makeMap 43 none).run Try.prog W = .ok (.map (some W.heap.size)) (W.alloc (.map #[] 0)) := by kernel_rfl
def DeepP (E : List Ed) (w : World) (e : Ending) (w' : World) : Prop := ∃ v, e = .returned (.int .i64 v) ∧ DeepS E v ∧ Grows w w'
/-- What the loop of deep holds. -/
structure DpL (B gK gU gR gW m ms mk : Nat) (E : List Ed) (V : Nm → Value) (i : Nat) (long : Nat) (w wr : World) : Prop where
  st : ∃ K U d, DpS B gK gU gR gW m ms mk E V K U d wr ∧ Inv E K U d ∧ (∀ x ∈ U, x ∈ K) ∧ (∀ e ∈ E.take i, e.1 ∈ K ∧ d e.1 ≤ long) ∧ (long = 0 ∨ ∃ e ∈ E.take i, long = d e.1)
  g : Grows w wr
set_option maxHeartbeats 8000000 in
theorem deep_any (E : List Ed) (n : Nat) (hn : E.length = n) (hL : n ≤ 200) (hok : ∀ e ∈ E, e.1.ok ∧ e.2.ok) (a : Option Addr) (cap : Nat) (w : World) (hr : Rd w a (rowsOf Edcs E)) :
    Calls Try.prog 11 #[.slice a n cap] w (DeepP E w) := by
  have HROWS := Lib.hid (rows_any E n hn hL hok a cap w hr)
  have HN := Lib.hid hn
  have HR := Lib.hid hr
  have HOK := Lib.hid hok
  have hmk := mkSet
  have hmk2 := mkKnown
  clear hr hn hok
  go_enter Try.func11, Try.ntmps11
  go_wp2_with fail
  refine HROWS.out.mono ?_
  rintro e w1 ⟨m, V, rfl, hRw, hg, hm⟩
  have HRW := Lib.hid hRw
  have HG1 := Lib.hid hg
  clear hRw hg hm HROWS
  have hG5 : Grows w1 ((((((w1.alloc (.map #[] 0)).alloc (.map #[] 0)).alloc (.cells #[.map (some m)] 35)).alloc (.cells #[.map (some w1.heap.size)] 38)).alloc (.cells #[.map (some (w1.heap.size + 1))] 43)).alloc (.cells #[(.func (.func 18) #[] #[ptr (w1.heap.size + 1 + 1 + 1 + 1), ptr (w1.heap.size + 1 + 1 + 1), ptr (w1.heap.size + 1 + 1), ptr (w1.heap.size + 1 + 1 + 1 + 1 + 1)])] 44)) := ((((((Grows.refl w1).alloc _).alloc _).alloc _).alloc _).alloc _).alloc _
  have hS5 : DpS w.heap.size (w1.heap.size + 1 + 1 + 1 + 1) (w1.heap.size + 1 + 1 + 1) (w1.heap.size + 1 + 1) (w1.heap.size + 1 + 1 + 1 + 1 + 1) m w1.heap.size (w1.heap.size + 1) E V [] [] (fun _ => 0) ((((((w1.alloc (.map #[] 0)).alloc (.map #[] 0)).alloc (.cells #[.map (some m)] 35)).alloc (.cells #[.map (some w1.heap.size)] 38)).alloc (.cells #[.map (some (w1.heap.size + 1))] 43)).alloc (.cells #[(.func (.func 18) #[] #[ptr (w1.heap.size + 1 + 1 + 1 + 1), ptr (w1.heap.size + 1 + 1 + 1), ptr (w1.heap.size + 1 + 1), ptr (w1.heap.size + 1 + 1 + 1 + 1 + 1)])] 44)) := by
    have q1 := (((At.new ((w1.alloc (.map #[] 0)).alloc (.map #[] 0)) 35 #[.map (some m)]).alloc (.cells #[.map (some w1.heap.size)] 38)).alloc (.cells #[.map (some (w1.heap.size + 1))] 43)).alloc (.cells #[(.func (.func 18) #[] #[ptr (w1.heap.size + 1 + 1 + 1 + 1), ptr (w1.heap.size + 1 + 1 + 1), ptr (w1.heap.size + 1 + 1), ptr (w1.heap.size + 1 + 1 + 1 + 1 + 1)])] 44)
    have q2 := ((At.new (((w1.alloc (.map #[] 0)).alloc (.map #[] 0)).alloc (.cells #[.map (some m)] 35)) 38 #[.map (some w1.heap.size)]).alloc (.cells #[.map (some (w1.heap.size + 1))] 43)).alloc (.cells #[(.func (.func 18) #[] #[ptr (w1.heap.size + 1 + 1 + 1 + 1), ptr (w1.heap.size + 1 + 1 + 1), ptr (w1.heap.size + 1 + 1), ptr (w1.heap.size + 1 + 1 + 1 + 1 + 1)])] 44)
    have q3 := (At.new ((((w1.alloc (.map #[] 0)).alloc (.map #[] 0)).alloc (.cells #[.map (some m)] 35)).alloc (.cells #[.map (some w1.heap.size)] 38)) 43 #[.map (some (w1.heap.size + 1))]).alloc (.cells #[(.func (.func 18) #[] #[ptr (w1.heap.size + 1 + 1 + 1 + 1), ptr (w1.heap.size + 1 + 1 + 1), ptr (w1.heap.size + 1 + 1), ptr (w1.heap.size + 1 + 1 + 1 + 1 + 1)])] 44)
    have q4 := At.new (((((w1.alloc (.map #[] 0)).alloc (.map #[] 0)).alloc (.cells #[.map (some m)] 35)).alloc (.cells #[.map (some w1.heap.size)] 38)).alloc (.cells #[.map (some (w1.heap.size + 1))] 43)) 44 #[(.func (.func 18) #[] #[ptr (w1.heap.size + 1 + 1 + 1 + 1), ptr (w1.heap.size + 1 + 1 + 1), ptr (w1.heap.size + 1 + 1), ptr (w1.heap.size + 1 + 1 + 1 + 1 + 1)])]
    have q5 := Mp.made (w1.alloc (.map #[] 0)) Try.prog 24
    simp only [World.size_alloc] at q1 q2 q3 q4 q5
    have hm1 := HRW.out.map.lt
    refine ⟨q3, q2, q1, q4, HRW.out.grows hG5, (Se.made w1).grows ((((((Grows.refl _).alloc _).alloc _).alloc _).alloc _).alloc _), q5.grows (((((Grows.refl _).alloc _).alloc _).alloc _).alloc _), (fun z hz => by cases hz), by omega, by omega, by omega⟩
  have HS5 := Lib.hid hS5
  have HG5 := Lib.hid (HG1.out.trans hG5)
  clear hS5 hG5
  go_wp2_with fail
  clear hmk hmk2
  go_loopg [7, 18] n (fun gh v7 v18 wr => ∃ (i long : Nat), gh + i = n ∧ v18 = .int .i64 (i : Int) ∧ v7 = .int .i64 (long : Int) ∧ DpL w.heap.size (w1.heap.size + 1 + 1 + 1 + 1) (w1.heap.size + 1 + 1 + 1) (w1.heap.size + 1 + 1) (w1.heap.size + 1 + 1 + 1 + 1 + 1) m w1.heap.size (w1.heap.size + 1) E V i long w wr)
  case atStart => exact ⟨0, 0, by omega, rfl, rfl, ⟨[], [], fun _ => 0, HS5.out, ⟨⟨(fun x hx => by cases hx), (fun x hx => by cases hx)⟩, (fun x hx => by cases hx), List.nodup_nil, List.nodup_nil, (fun x hx => by cases hx), (fun x hx => by cases hx)⟩, (fun x hx => by cases hx), (fun x hx => by simp at hx), .inl rfl⟩, HG5.out⟩
  case round =>
    obtain ⟨i, long, hgi, rfl, rfl, ⟨⟨K, U, d, hS, hI, hUK, hall, hone⟩, hg⟩⟩ := hrel
    have HS := Lib.hid hS
    have HI := Lib.hid hI
    have HUK := Lib.hid hUK
    have HALL := Lib.hid hall
    have HONE := Lib.hid hone
    have HG := Lib.hid hg
    clear hS hI hUK hall hone hg
    by_cases hlt : i < n
    · have hil : i < E.length := by rw [HN.out]; exact hlt
      obtain ⟨g, off, rfl, hgw, c0, c1, c2, c3, c4, c5⟩ := edges_cell (HR.out.grows HG.out) hil
      have HEM := Lib.hid (List.getElem_mem hil)
      have HTK : Hid (E.take (i + 1) = E.take i ++ [E[i]]) := Lib.hid (by rw [List.take_add_one, List.getElem?_eq_getElem hil]; rfl)
      have HEO := Lib.hid (HOK.out _ (List.getElem_mem hil))
      generalize E[i] = ed at *
      obtain ⟨x, y⟩ := ed
      simp only at c0 c1 c2 c3 c4 c5
      have hi1 : (i : Int) < (n : Int) := by omega
      have cW := HS.out.bW.cell 0
      have hlW := HS.out.bW.lt
      have HS1 := Lib.hid (HS.out.grows ((Grows.refl _).alloc (.cells #[.int .i64 x.s, .int .i64 x.i, .int .i64 x.t, .int .i64 y.s, .int .i64 y.i, .int .i64 y.t] 32)))
      have HG1' := Lib.hid (HG.out.alloc (.cells #[.int .i64 x.s, .int .i64 x.i, .int .i64 x.t, .int .i64 y.s, .int .i64 y.i, .int .i64 y.t] 32))
      have HREC := Lib.hid (deep1_any _ _ _ _ _ _ _ _ E (by have := HN.out; omega) V (2 * E.length) K U d _ x HEO.out.1 (mem_nodes HEM.out).1 HS1.out HI.out (fun z hz hzk => absurd (HUK.out z hz) hzk) (Nat.sub_le _ _))
      unfold Nm.v at HREC
      clear hgw hil
      go_wp2_with fail
      refine HREC.out.mono ?_
      rintro e w6 ⟨hT6, ⟨rfl, hcy⟩ | ⟨K6, U6, d6, rfl, hy6, hS6, hW6⟩⟩
      · have HF : Hid (DeepP E w (.returned (.int .i64 (-1))) w6) := Lib.hid ⟨-1, rfl, .inl ⟨rfl, hcy⟩, hT6.low HG1'.out (fun j hj => by have := HG1.out.size; rcases hj with rfl | rfl <;> omega)⟩
        clear hT6 hcy c0 c1 c2 c3 c4 c5 cW hlW
        go_wp2_with fail
        go_ret
        exact HF.out
      · have hbd := hW6.inv.bd x hy6
        have hkl := hW6.inv.len.2
        have HL6 : Hid (DpL w.heap.size (w1.heap.size + 1 + 1 + 1 + 1) (w1.heap.size + 1 + 1 + 1) (w1.heap.size + 1 + 1) (w1.heap.size + 1 + 1 + 1 + 1 + 1) m w1.heap.size (w1.heap.size + 1) E V (i + 1) (max long (d6 x)) w w6) := Lib.hid ⟨⟨K6, U6, d6, hS6, hW6.inv, fun z hz => Classical.byContradiction fun hzk => by
            obtain ⟨q1, q2⟩ := (hW6.same z).1 ⟨hz, hzk⟩
            exact q2 (HUK.out z q1), fun e he => by
            rw [HTK.out] at he
            rcases List.mem_append.1 he with he | he
            · obtain ⟨q1, q2⟩ := HALL.out e he
              obtain ⟨q3, q4⟩ := hW6.old _ q1
              exact ⟨q3, by rw [q4]; omega⟩
            · rw [List.mem_singleton.1 he]
              exact ⟨hy6, by show d6 x ≤ _; omega⟩, by
            rw [HTK.out]
            by_cases c : long ≤ d6 x
            · exact .inr ⟨(x, y), by simp, by show _ = d6 x; omega⟩
            · rcases HONE.out with h | ⟨e, he, h⟩
              · omega
              · refine .inr ⟨e, by simp [he], ?_⟩
                rw [(hW6.old _ (HALL.out e he).1).2]
                omega⟩, hT6.low HG1'.out (fun j hj => by have := HG1.out.size; rcases hj with rfl | rfl <;> omega)⟩
        obtain ⟨z, hz6⟩ : ∃ z, d6 x = z := ⟨_, rfl⟩
        rw [hz6] at HL6 ⊢
        have hz0 : ¬ ((z : Int) < 0) := by omega
        clear hT6 hy6 hS6 hW6 hbd hkl hz6 c0 c1 c2 c3 c4 c5 cW hlW
        go_wp2_with fail
        all_goals
          go_roundg (gk - 1)
          case measure => omega
          case rel => exact ⟨i + 1, max long z, by omega, by go_num, congrArg (Value.int .i64) (by omega), HL6.out⟩
    · have hge : ¬ (i : Int) < (n : Int) := by omega
      have HF : Hid (DeepP E w (.returned (.int .i64 (long : Int))) wr) := Lib.hid ⟨_, rfl, deep_fin HI.out (fun e he => HALL.out e (by rw [List.take_of_length_le (by have := HN.out; omega)]; exact he)) (by have := HONE.out; rwa [List.take_of_length_le (by have := HN.out; omega)] at this), HG.out⟩
      clear hlt
      go_wp2_with fail
      go_ret
      exact HF.out
end Go.Proofs.Ytpllcjggjjapoaa
