/-
  stripe.differ, Diff.
-/
import Derived.Test.YtimafdiljcglfaaStE
import Derived.Test.YtimafdiljcglfaaRws
import Derived.Test.YtimafdiljcglfaaStep
namespace Go.Proofs.Ytimafdiljcglfaa
open Go.RowKit

/-- The first k places at which two rows differ. -/
def dfs (A B : List Int) (k : Nat) : List Nat := (List.range k).filter fun i => decide (A.getD i 0 ≠ B.getD i 0)
theorem dfs_succ (A B : List Int) (k : Nat) : dfs A B (k + 1) = dfs A B k ++ if A.getD k 0 ≠ B.getD k 0 then [k] else [] := by
  unfold dfs
  rw [List.range_succ, List.filter_append]
  by_cases h : A.getD k 0 ≠ B.getD k 0
  · rw [if_pos h, List.filter_cons_of_pos (by simpa using h)]; rfl
  · rw [if_neg h, List.filter_cons_of_neg (by simpa using h)]; rfl
theorem dfs_len (A B : List Int) (k : Nat) : (dfs A B k).length ≤ k := by
  have := List.length_filter_le (fun i => decide (A.getD i 0 ≠ B.getD i 0)) (List.range k)
  simpa [dfs] using this
theorem dfs_lt {A B : List Int} {k i : Nat} (h : i ∈ dfs A B k) : i < k := by
  unfold dfs at h
  exact List.mem_range.1 (List.mem_filter.1 h).1
theorem dfs_mem {A B : List Int} {k i : Nat} : i ∈ dfs A B k ↔ i < k ∧ A.getD i 0 ≠ B.getD i 0 := by
  unfold dfs
  rw [List.mem_filter, List.mem_range]
  simp
def nats (l : List Nat) : List Value := l.map fun (i : Nat) => Value.int .i64 (i : Int)
theorem nats_append (a b : List Nat) : nats (a ++ b) = nats a ++ nats b := by simp [nats]
theorem nats_one (l : List Nat) : ∀ u ∈ nats l, u.oneCell' = true := by
  intro u hu
  obtain ⟨z, _, rfl⟩ := List.mem_map.1 hu
  rfl
theorem info_int : (Try.prog.info? 3).map (fun i => (i.zero, i.size, i.bytes)) = some (some (.int .i64 0), 1, 8) := by kernel_rfl
theorem rd_ints {w : World} {g o : Nat} {l : List Int} (h : Rd w (some ⟨g, o, none⟩) (ints l)) {k : Nat} (hk : k < l.length) : w.cell? ⟨g, o + k, none⟩ = some (.int .i64 (l.getD k 0)) := by
  obtain ⟨b, off, he, hb, hc⟩ := h.at (by simp [ints]; omega)
  injection he with he
  injection he with e1 e2
  subst e1
  subst e2
  rw [hc k (by simpa [ints] using hk)]
  simp [ints, List.getElem?_eq_getElem hk]

set_option maxHeartbeats 1000000 in
theorem differ_any (A B : List Int) (hA : A.length = 8) (hB : B.length = 8) (g1 o1 g2 o2 c1 c2 : Nat) (w : World) (h1 : Rd w (some ⟨g1, o1, none⟩) (ints A)) (h2 : Rd w (some ⟨g2, o2, none⟩) (ints B)) :
    Calls Try.prog 19 #[.slice (some ⟨g1, o1, none⟩) 8 c1, .slice (some ⟨g2, o2, none⟩) 8 c2] w fun e w' => ∃ v, e = .returned v ∧ New w 3 1 (dfs A B 8).length (nats (dfs A B 8)) v w' := by
  have HA := Lib.hid hA
  have HB := Lib.hid hB
  have H1 := Lib.hid h1
  have H2 := Lib.hid h2
  clear hA hB h1 h2
  obtain ⟨i0, hi0, hz0, hz1, hz2⟩ := info_parts info_int
  go_enter Try.func19, Try.ntmps19
  go_wp2_with fail
  go_loopg [5, 9] 8 (fun gh t i wr => ∃ (k m : Nat), k + gh = 8 ∧ i = .int .i64 (k : Int) ∧ m = (dfs A B k).length ∧ wr.ownsRow w.heap.size 3 1 t m (nats (dfs A B k)) ∧ Grows w wr)
  case atStart => exact ⟨0, 0, by omega, rfl, rfl, World.ownsRow_nil _ _ _ _, Grows.refl _⟩
  case round =>
    obtain ⟨k, m, hk, rfl, hm, hown, hg⟩ := hrel
    have HOW := Lib.hid hown
    have HMM := Lib.hid hm
    have hm8 : m ≤ k := by rw [hm]; exact dfs_len A B k
    clear hown hm
    by_cases hlt : k < 8
    · have ca := rd_ints (H1.out.grows hg) (k := k) (by rw [HA.out]; exact hlt)
      have cb := rd_ints (H2.out.grows hg) (k := k) (by rw [HB.out]; exact hlt)
      have HS := Lib.hid (dfs_succ A B k)
      generalize A.getD k 0 = x at *
      generalize B.getD k 0 = y at *
      have hlt' : (k : Int) < 8 := by omega
      have hk0 : (0 : Int) ≤ (k : Int) := by omega
      by_cases hxy : x = y
      · have hne : (x != y) = false := by simpa using hxy
        rw [if_neg (by simpa using hxy), List.append_nil] at HS
        clear hxy
        go_wp2_with fail
        go_quiet (fail)
        go_wp2_with fail
        go_roundg (gk - 1)
        case measure => omega
        case rel => exact ⟨k + 1, m, by omega, by go_num, by rw [HS.out]; exact HMM.out, by rw [HS.out]; exact own_grows HOW.out ((Grows.refl _).drewN _), hg.drewN _⟩
      · have hne : (x != y) = true := by simpa using hxy
        rw [if_pos hxy] at HS
        clear hxy
        go_wp2_with fail
        go_quiet (fail)
        have G5 : Grows w (wr.drewN nq) := hg.drewN nq
        have HOWn := Lib.hid (own_grows HOW.out ((Grows.refl wr).drewN nq))
        clear ca cb
        generalize wr.drewN nq = wn at *
        go_wp2_with (at_builtin; refine wpList_append_rd _ rfl (.tmp 21) (.tmp 23) 57 rfl w.heap.size 3 i0 _ 1 8 Try.underlying57 hi0 hz0 hz1 hz2 rfl (by decide) u5 m (nats (dfs A B k)) rfl (own_grows HOWn.out ((Grows.refl _).alloc _)) _ 1 _ (nats [k]) rfl ?q0 ?q1 (nats_one _) ?q3 ?q4 ?q5 ?_)
        case q0 => exact rd_new wn _ _ (0, 0)
        case q1 => rfl
        case q3 => unfold maxLen; omega
        case q4 => omega
        case q5 => exact (G5.alloc _).size
        intro v7 w7 hown7 hgr7 _
        have G7 : Grows w w7 := (G5.alloc _).grown hgr7 (by intro k hk; exact (HOWn.out.lt k hk).1)
        have HO7 := Lib.hid hown7
        clear hown7 hgr7
        go_wp2_with fail
        go_roundg (gk - 1)
        case measure => omega
        case rel => exact ⟨k + 1, m + 1, by omega, by go_num, by rw [HS.out, List.length_append, ← HMM.out]; rfl, by rw [HS.out, nats_append]; exact HO7.out, G7⟩
    · obtain rfl : k = 8 := by omega
      go_wp2_with fail
      go_ret
      refine ⟨_, rfl, ?_, hg⟩
      rw [← HMM.out]
      exact HOW.out

/-- A change's cells: the stripe, whom it goes to. -/
def chc (B : List Int) (i : Nat) : List Value := [.int .i64 (i : Int), .int .i64 (B.getD i 0)]
theorem chc_len (B : List Int) (i : Nat) : (chc B i).length = 2 := rfl
theorem chc_one (B : List Int) (i : Nat) : ∀ u ∈ chc B i, u.oneCell' = true := by
  intro u hu
  simp only [chc, List.mem_cons, List.not_mem_nil, or_false] at hu
  rcases hu with rfl | rfl <;> rfl
theorem info_change : (Try.prog.info? 26).map (fun i => (i.zero, i.size, i.bytes)) = some (some (.agg #[.int .i64 0, .int .i64 0]), 2, 16) := by kernel_rfl
/-- What Diff answers. -/
def DiffPost (w : World) (B : List Int) (D : List Nat) (e : Ending) (w' : World) : Prop :=
  Grows w w' ∧ ((D.any (fun i => B.getD i 0 == 0) = true ∧ e = .returned (.tuple #[.slice none 0 0, .int .i64 2])) ∨
    (D.any (fun i => B.getD i 0 == 0) = false ∧ ∃ v, e = .returned (.tuple #[v, .int .i64 0]) ∧ New w 26 2 D.length (rowsOf (chc B) D) v w'))
theorem eq8 (W : World) (o0 o1 o2 o3 o4 o5 o6 o7 p0 p1 p2 p3 p4 p5 p6 p7 : Int) : (Op.equalIn 10000 22 (.agg #[.int .i64 o0, .int .i64 o1, .int .i64 o2, .int .i64 o3, .int .i64 o4, .int .i64 o5, .int .i64 o6, .int .i64 o7]) (.agg #[.int .i64 p0, .int .i64 p1, .int .i64 p2, .int .i64 p3, .int .i64 p4, .int .i64 p5, .int .i64 p6, .int .i64 p7])).run Try.prog W = .ok (decide ([o0, o1, o2, o3, o4, o5, o6, o7] = [p0, p1, p2, p3, p4, p5, p6, p7])) W := by
  have hk : ∀ (q0 q1 q2 q3 q4 q5 q6 q7 : Int), OfKinds (List.replicate 8 (some .i64)) [.int .i64 q0, .int .i64 q1, .int .i64 q2, .int .i64 q3, .int .i64 q4, .int .i64 q5, .int .i64 q6, .int .i64 q7] := fun q0 q1 q2 q3 q4 q5 q6 q7 => ⟨⟨_, rfl⟩, ⟨_, rfl⟩, ⟨_, rfl⟩, ⟨_, rfl⟩, ⟨_, rfl⟩, ⟨_, rfl⟩, ⟨_, rfl⟩, ⟨_, rfl⟩, trivial⟩
  have := eq_flat_agg (P := Try.prog) W 2 22 (List.replicate 8 (some .i64)) (by kernel_rfl) (by omega) (fun _ => rfl) _ _ (hk o0 o1 o2 o3 o4 o5 o6 o7) (hk p0 p1 p2 p3 p4 p5 p6 p7)
  have he : cellsEq (ints [o0, o1, o2, o3, o4, o5, o6, o7]) (ints [p0, p1, p2, p3, p4, p5, p6, p7]) = decide ([o0, o1, o2, o3, o4, o5, o6, o7] = [p0, p1, p2, p3, p4, p5, p6, p7]) := by
    rw [Bool.eq_iff_iff, decide_eq_true_eq]
    refine (cellsEq_iff (hk o0 o1 o2 o3 o4 o5 o6 o7) (hk p0 p1 p2 p3 p4 p5 p6 p7)).trans ?_
    constructor
    · intro h
      simp only [List.cons.injEq, Value.int.injEq, true_and, and_true] at h
      simpa using h
    · intro h
      exact congrArg ints h
  rw [← he]
  exact this
theorem dfs_self (A : List Int) (k : Nat) : dfs A A k = [] := by simp [dfs]
theorem rd_mid (w : World) (v o0 o1 o2 o3 o4 o5 o6 o7 : Int) (g : Nat) (h : At w g 24 #[.int .i64 v, .int .i64 o0, .int .i64 o1, .int .i64 o2, .int .i64 o3, .int .i64 o4, .int .i64 o5, .int .i64 o6, .int .i64 o7]) : Rd w (some ⟨g, 1, none⟩) (ints [o0, o1, o2, o3, o4, o5, o6, o7]) := by
  refine .inr ⟨g, 1, rfl, h.lt, fun i u hu => ?_⟩
  rw [h.cell]
  have hi : i < 8 := by
    rcases Nat.lt_or_ge i 8 with h | h
    · exact h
    · rw [List.getElem?_eq_none (by simpa [ints] using h)] at hu; cases hu
  rw [lit9 v o0 o1 o2 o3 o4 o5 o6 o7 i hi, ← hu, ints, List.getElem?_map, List.getD_eq_getElem?_getD, List.getElem?_eq_getElem (show i < [o0, o1, o2, o3, o4, o5, o6, o7].length from hi)]
  rfl
theorem any_take_succ {p : Nat → Bool} {D : List Nat} {k : Nat} (h : k < D.length) : (D.take (k + 1)).any p = ((D.take k).any p || p D[k]) := by
  rw [List.take_succ_eq_append_getElem h, List.any_append]; simp

set_option maxRecDepth 10000 in
set_option maxHeartbeats 2000000 in
theorem Diff_any (v u o0 o1 o2 o3 o4 o5 o6 o7 p0 p1 p2 p3 p4 p5 p6 p7 : Int) (A B : List Int) (hA : [o0, o1, o2, o3, o4, o5, o6, o7] = A) (hB : [p0, p1, p2, p3, p4, p5, p6, p7] = B) (hok : okM v A = true) (hok2 : okM u B = true) (w : World) :
    Calls Try.prog 12 #[mpv v o0 o1 o2 o3 o4 o5 o6 o7, mpv u p0 p1 p2 p3 p4 p5 p6 p7] w (DiffPost w B (dfs A B 8)) := by
  have hK : ∀ W, Calls Try.prog 8 #[mpv v o0 o1 o2 o3 o4 o5 o6 o7] W fun e w' => e = .returned (.int .i64 0) ∧ Grows W w' := fun W => by
    have := check_any v o0 o1 o2 o3 o4 o5 o6 o7 W
    rw [hA, show checkE v A = 0 by simp [checkE, hok]] at this
    exact this
  have hK2 : ∀ W, Calls Try.prog 8 #[mpv u p0 p1 p2 p3 p4 p5 p6 p7] W fun e w' => e = .returned (.int .i64 0) ∧ Grows W w' := fun W => by
    have := check_any u p0 p1 p2 p3 p4 p5 p6 p7 W
    rw [hB, show checkE u B = 0 by simp [checkE, hok2]] at this
    exact this
  have heq : ∀ W, (Op.equalIn 10000 22 (.agg #[.int .i64 o0, .int .i64 o1, .int .i64 o2, .int .i64 o3, .int .i64 o4, .int .i64 o5, .int .i64 o6, .int .i64 o7]) (.agg #[.int .i64 p0, .int .i64 p1, .int .i64 p2, .int .i64 p3, .int .i64 p4, .int .i64 p5, .int .i64 p6, .int .i64 p7])).run Try.prog W = .ok (decide (A = B)) W := fun W => by rw [← hA, ← hB]; exact eq8 W o0 o1 o2 o3 o4 o5 o6 o7 p0 p1 p2 p3 p4 p5 p6 p7
  have hA8 : A.length = 8 := by rw [← hA]; rfl
  have hB8 : B.length = 8 := by rw [← hB]; rfl
  have hlit : ∀ k, k < 8 → (#[.int .i64 u, .int .i64 p0, .int .i64 p1, .int .i64 p2, .int .i64 p3, .int .i64 p4, .int .i64 p5, .int .i64 p6, .int .i64 p7] : Array Value)[1 + k]? = some (.int .i64 (B.getD k 0)) := fun k hk => by rw [← hB]; exact lit9 u p0 p1 p2 p3 p4 p5 p6 p7 k hk
  have hRA : ∀ W, At W w.heap.size 24 #[.int .i64 v, .int .i64 o0, .int .i64 o1, .int .i64 o2, .int .i64 o3, .int .i64 o4, .int .i64 o5, .int .i64 o6, .int .i64 o7] → Rd W (some ⟨w.heap.size, 1, none⟩) (ints A) := fun W h => by rw [← hA]; exact rd_mid W v o0 o1 o2 o3 o4 o5 o6 o7 _ h
  have hRB : ∀ W, At W (w.heap.size + 1) 24 #[.int .i64 u, .int .i64 p0, .int .i64 p1, .int .i64 p2, .int .i64 p3, .int .i64 p4, .int .i64 p5, .int .i64 p6, .int .i64 p7] → Rd W (some ⟨w.heap.size + 1, 1, none⟩) (ints B) := fun W h => by rw [← hB]; exact rd_mid W u p0 p1 p2 p3 p4 p5 p6 p7 _ h
  have HK := Lib.hid hK
  have HK2 := Lib.hid hK2
  have HA8 := Lib.hid hA8
  have HB8 := Lib.hid hB8
  have HL := Lib.hid hlit
  have HRA := Lib.hid hRA
  have HRB := Lib.hid hRB
  clear hK hK2 hA hB hok hok2 hA8 hB8 hlit hRA hRB
  unfold mpv at *
  have G0 := ((Grows.refl w).alloc (.cells #[.int .i64 v, .int .i64 o0, .int .i64 o1, .int .i64 o2, .int .i64 o3, .int .i64 o4, .int .i64 o5, .int .i64 o6, .int .i64 o7] 24)).alloc (.cells #[.int .i64 u, .int .i64 p0, .int .i64 p1, .int .i64 p2, .int .i64 p3, .int .i64 p4, .int .i64 p5, .int .i64 p6, .int .i64 p7] 24)
  have A0 := Lib.hid ((At.new w 24 #[.int .i64 v, .int .i64 o0, .int .i64 o1, .int .i64 o2, .int .i64 o3, .int .i64 o4, .int .i64 o5, .int .i64 o6, .int .i64 o7]).alloc (.cells #[.int .i64 u, .int .i64 p0, .int .i64 p1, .int .i64 p2, .int .i64 p3, .int .i64 p4, .int .i64 p5, .int .i64 p6, .int .i64 p7] 24))
  have B0 := At.new (w.alloc (.cells #[.int .i64 v, .int .i64 o0, .int .i64 o1, .int .i64 o2, .int .i64 o3, .int .i64 o4, .int .i64 o5, .int .i64 o6, .int .i64 o7] 24)) 24 #[.int .i64 u, .int .i64 p0, .int .i64 p1, .int .i64 p2, .int .i64 p3, .int .i64 p4, .int .i64 p5, .int .i64 p6, .int .i64 p7]
  simp only [World.size_alloc] at B0
  have B0 := Lib.hid B0
  obtain ⟨i0, hi0, hz0, hz1, hz2⟩ := info_parts info_change
  go_enter Try.func12, Try.ntmps12
  go_wp2_with fail
  refine (HK.out _).mono ?_
  rintro e w1 ⟨rfl, hb1⟩
  have A1 := Lib.hid (A0.out.grows hb1)
  have B1 := Lib.hid (B0.out.grows hb1)
  have G1 := G0.trans hb1
  have cb := B1.out.cell
  go_wp2_with fail
  refine (HK2.out _).mono ?_
  rintro e w2 ⟨rfl, hb2⟩
  have A2 := Lib.hid (A1.out.grows hb2)
  have B2 := Lib.hid (B1.out.grows hb2)
  have G2 := G1.trans hb2
  clear cb A0 B0 A1 B1 HK HK2
  have ca := A2.out.cell
  have cb := B2.out.cell
  by_cases hAB : A = B
  · have hd : decide (A = B) = true := by simpa using hAB
    rw [hd] at heq
    subst hAB
    go_wp2_with fail
    go_ret2
    rw [dfs_self]
    exact ⟨G2, .inr ⟨rfl, _, rfl, World.ownsRow_nil _ _ _ _, G2⟩⟩
  · have hd : decide (A = B) = false := by simpa using hAB
    rw [hd] at heq
    clear hAB hd
    have HD : Hid (∀ W, Grows w2 W → Calls Try.prog 19 #[.slice (some ⟨w.heap.size, 1, none⟩) 8 8, .slice (some ⟨w.heap.size + 1, 1, none⟩) 8 8] W fun e w' => ∃ v, e = .returned v ∧ New W 3 1 (dfs A B 8).length (nats (dfs A B 8)) v w') := fun W hW =>
      differ_any A B HA8.out HB8.out _ _ _ _ 8 8 W (HRA.out W (A2.out.grows hW)) (HRB.out W (B2.out.grows hW))
    have hs1 : ∀ (W : World) (g : Nat), (Instr.sliceAt 22 (.pointer (some ⟨g, 1, none⟩)) none none none).run Try.prog W = .ok (.slice (some ⟨g, 1, none⟩) 8 8) W := fun W g => run_sliceAt_all W Try.underlying22 (by kernel_rfl) ⟨g, 1, none⟩
    have hDlt : ∀ i ∈ dfs A B 8, i < 8 := fun i hi => dfs_lt hi
    have hDl := dfs_len A B 8
    generalize hDD : dfs A B 8 = D at *
    clear hDD
    have HDL := Lib.hid hDlt
    clear hDlt
    obtain ⟨m, hm⟩ : ∃ m, D.length = m := ⟨_, rfl⟩
    have HM := Lib.hid hm
    rw [hm] at hDl HD
    clear hm
    go_wp2_with fail
    clear ca cb heq
    have g0 := Grows.refl w2
    have g1 := g0.drew
    go_region_held3 (fun W => Grows w2 W) (assumption) ((go_at_call 19; (with_reducible refine (HD.out _ (by assumption)).mono ?_); rintro e w3 ⟨v3, rfl, hN3⟩; obtain ⟨a3, c3, rfl, hca, hca2, hca3⟩ := own_slice hN3.1; have k3 := Grows.trans (a := w2) (by assumption) hN3.2))
    clear g0 g1 HD hs1 hca2
    have RD := Lib.hid hN3.rd
    have G3 := G2.trans k3
    have B3 := Lib.hid (B2.out.grows k3)
    clear hN3 A2 B2 k3
    go_wp2_with fail
    go_loopg [6, 28] m (fun gh t i wr => ∃ (k : Nat), k + gh = m ∧ i = .int .i64 (k : Int) ∧ (D.take k).any (fun i => B.getD i 0 == 0) = false ∧ wr.ownsRow w3.heap.size 26 2 t k (rowsOf (chc B) (D.take k)) ∧ Grows w3 wr)
    case atStart => exact ⟨0, by omega, rfl, rfl, World.ownsRow_nil _ _ _ _, Grows.refl _⟩
    case round =>
      obtain ⟨k, hk, rfl, hany, hown, hg⟩ := hrel
      have HOW := Lib.hid hown
      have HAN := Lib.hid hany
      clear hown hany
      by_cases hlt : k < m
      · have hkl : k < D.length := by rw [HM.out]; exact hlt
        obtain ⟨gd, od, rfl, hgd, hcd⟩ := (RD.out.grows hg).at (by simp [nats]; omega)
        have hck := hcd k (by simpa [nats] using hkl)
        rw [show (nats D)[k]'(by simpa [nats] using hkl) = .int .i64 ((D[k] : Nat) : Int) by simp [nats]] at hck
        have hi8 := HDL.out D[k] (List.getElem_mem hkl)
        have HAS := Lib.hid (any_take_succ (p := fun i => B.getD i 0 == 0) hkl)
        have HTS := Lib.hid (List.take_succ_eq_append_getElem hkl)
        have HME := Lib.hid (List.getElem_mem hkl)
        generalize D[k] = i at *
        have hcb := (B3.out.grows hg).cell (1 + i)
        rw [HL.out i hi8] at hcb
        clear hcd
        have hlt' : (k : Int) < (m : Int) := by omega
        have hk0 : (0 : Int) ≤ (k : Int) := by omega
        have hi0' : (0 : Int) ≤ (i : Int) := by omega
        have hi8' : (i : Int) < 8 := by omega
        by_cases hz : B.getD i 0 = 0
        · have HAT : Hid (D.any (fun i => B.getD i 0 == 0) = true) := by
            show _ = _
            rw [List.any_eq_true]
            exact ⟨i, HME.out, by simpa using hz⟩
          rw [hz] at hcb
          go_wp2_with fail
          go_ret2
          exact ⟨G3.trans hg, .inl ⟨HAT.out, rfl⟩⟩
        · have hzb : (B.getD i 0 == 0) = false := by simpa using hz
          have HAF : Hid ((D.take (k + 1)).any (fun i => B.getD i 0 == 0) = false) := by
            show _ = _
            rw [HAS.out, HAN.out, hzb]; rfl
          have HCC : Hid (chc B i = [.int .i64 (i : Int), .int .i64 (B.getD i 0)]) := rfl
          generalize B.getD i 0 = x at *
          clear hz
          go_wp2_with (at_builtin; refine wpList_append_rd _ rfl (.tmp 37) (.tmp 44) 44 rfl w3.heap.size 26 i0 _ 2 16 Try.underlying44 hi0 hz0 hz1 hz2 rfl (by decide) u6 k _ rfl (own_grows HOW.out ((Grows.refl _).alloc _)) _ 1 _ (chc B i) rfl ?q0 rfl (chc_one _ _) ?q3 ?q4 ?q5 ?_)
          case q0 => rw [HCC.out]; exact rd_new wr _ _ (0, 0)
          case q3 => unfold maxLen; omega
          case q4 => omega
          case q5 => exact (hg.alloc _).size
          intro v7 w7 hown7 hgr7 _
          have G7 : Grows w3 w7 := (hg.alloc _).grown hgr7 (by intro k hk; exact (HOW.out.lt k hk).1)
          have HO7 := Lib.hid hown7
          clear hown7 hgr7
          go_wp2_with fail
          go_roundg (gk - 1)
          case measure => omega
          case rel => exact ⟨k + 1, by omega, by go_num, HAF.out, by rw [HTS.out, rows_append, rows_one]; exact HO7.out, G7⟩
      · obtain rfl : k = m := by omega
        have hO := HOW.out
        have hN := HAN.out
        rw [List.take_of_length_le (by rw [HM.out]; exact Nat.le_refl _)] at hO hN
        go_wp2_with fail
        go_ret2
        exact ⟨G3.trans hg, .inr ⟨hN, _, rfl, by rw [HM.out]; exact own_lower hO G3.size, G3.trans hg⟩⟩
end Go.Proofs.Ytimafdiljcglfaa
