/-
  graph.rows: the walk; set.add.
-/
import Derived.Test.YtpllcjggjjapoaaGrB
namespace Go.Proofs.Ytpllcjggjjapoaa
open Go.RowKit Go.Maps Go.ChangeMaps Go.MapKept Go.WideElems

theorem edges_cell {w : World} {a : Option Addr} {E : List Ed} (h : Rd w a (rowsOf Edcs E)) {k : Nat} (hk : k < E.length) :
    ∃ (g off : Nat), a = some ⟨g, off, none⟩ ∧ g < w.heap.size ∧ w.cell? ⟨g, off + k * 6, none⟩ = some (.int .i64 E[k].1.s) ∧ w.cell? ⟨g, off + k * 6 + 1, none⟩ = some (.int .i64 E[k].1.i) ∧ w.cell? ⟨g, off + k * 6 + 2, none⟩ = some (.int .i64 E[k].1.t) ∧
      w.cell? ⟨g, off + k * 6 + 3, none⟩ = some (.int .i64 E[k].2.s) ∧ w.cell? ⟨g, off + k * 6 + 4, none⟩ = some (.int .i64 E[k].2.i) ∧ w.cell? ⟨g, off + k * 6 + 5, none⟩ = some (.int .i64 E[k].2.t) := by
  obtain ⟨g, off, e, hg, hc⟩ := rows_cell Edcs_len (by omega) h hk
  exact ⟨g, off, e, hg, hc 0 _ rfl, hc 1 _ rfl, hc 2 _ rfl, hc 3 _ rfl, hc 4 _ rfl, hc 5 _ rfl⟩
theorem mkRows (W : World) : (Instr.makeMap 35 none).run Try.prog W = .ok (.map (some W.heap.size)) (W.alloc (.map #[] 0)) := by kernel_rfl
def RowsP (E : List Ed) (w : World) (e : Ending) (w' : World) : Prop := ∃ m V, e = .returned (.map (some m)) ∧ Rw w' w.heap.size m E V ∧ Grows w w' ∧ w.heap.size ≤ m
set_option maxHeartbeats 4000000 in
theorem rows_any (E : List Ed) (n : Nat) (hn : E.length = n) (hL : n ≤ 200) (hok : ∀ e ∈ E, e.1.ok ∧ e.2.ok) (a : Option Addr) (cap : Nat) (w : World) (hr : Rd w a (rowsOf Edcs E)) :
    Calls Try.prog 13 #[.slice a n cap] w (RowsP E w) := by
  obtain ⟨i0, hi0, hz0, hz1, hz2⟩ := info_parts info_nm
  have HR := Lib.hid hr
  have HN := Lib.hid hn
  have HOK := Lib.hid hok
  clear hr hn hok
  have hmk := mkRows
  go_enter Try.func13, Try.ntmps13
  go_wp2_with fail
  clear hmk
  go_loopg [9] n (fun gh v9 wr => ∃ (i : Nat) (V : Nm → Value), gh + i = n ∧ v9 = .int .i64 (i : Int) ∧ Rw wr w.heap.size w.heap.size (E.take i) V ∧ Grows w wr)
  case atStart => exact ⟨0, _, by omega, rfl, Rw.made w _, (Grows.refl w).alloc _⟩
  case round =>
    obtain ⟨i, V, hgi, rfl, hRw, hg⟩ := hrel
    have HRW := Lib.hid hRw
    have HG := Lib.hid hg
    clear hRw hg
    by_cases hlt : i < n
    · have hil : i < E.length := by rw [HN.out]; exact hlt
      obtain ⟨g, off, rfl, hgw, c0, c1, c2, c3, c4, c5⟩ := edges_cell (HR.out.grows HG.out) hil
      have HTK : Hid (E.take (i + 1) = E.take i ++ [E[i]]) := Lib.hid (by rw [List.take_add_one, List.getElem?_eq_getElem hil]; rfl)
      have HEO := Lib.hid (HOK.out _ (List.getElem_mem hil))
      have HLT : Hid ((E.take i).length ≤ 200) := Lib.hid (by rw [List.length_take]; omega)
      generalize E[i] = ed at *
      obtain ⟨x, y⟩ := ed
      simp only at c0 c1 c2 c3 c4 c5
      have hi1 : (i : Int) < (n : Int) := by omega
      generalize E.take i = F at *
      -- the world of the entry
      obtain ⟨W, hW⟩ : ∃ W, (wr.alloc (.cells #[.int .i64 x.s, .int .i64 x.i, .int .i64 x.t, .int .i64 y.s, .int .i64 y.i, .int .i64 y.t] 32)).alloc (.cells #[.int .i64 y.s, .int .i64 y.i, .int .i64 y.t] 24) = W := ⟨_, rfl⟩
      have hgW : Grows wr W := by rw [← hW]; exact ((Grows.refl _).alloc _).alloc _
      have HRWW := Lib.hid (HRW.out.grows hgW)
      have HGW := Lib.hid (HG.out.trans hgW)
      have HSL : Hid (Rd W (some ⟨wr.heap.size + 1, 0, none⟩) y.cs ∧ wr.heap.size + 1 < W.heap.size) := Lib.hid (by
        have := rd_new (wr.alloc (.cells #[.int .i64 x.s, .int .i64 x.i, .int .i64 x.t, .int .i64 y.s, .int .i64 y.i, .int .i64 y.t] 32)) #[.int .i64 y.s, .int .i64 y.i, .int .i64 y.t] 24 (0, 0)
        rw [World.size_alloc] at this
        rw [← hW]
        exact ⟨this, by simp⟩)
      obtain ⟨st, o, hme, hes⟩ := HRWW.out.map.entry nameKL Try.underlying35 zrow ((F.map Prod.fst).reverse.map Nm.lit) fT_mem (by have := HLT.out; simp [maxLen]; omega) (name_key x HEO.out.1)
      rw [HRWW.out.at HEO.out.1] at hme
      obtain ⟨W1, hW1⟩ : ∃ W1, setBlock W w.heap.size o = W1 := ⟨_, rfl⟩
      rw [hW1] at hme
      have hmlt := HRWW.out.map.lt
      have hb1 : ∀ j, j ≠ w.heap.size → W1.heap[j]? = W.heap[j]? := fun j hj => by rw [← hW1]; simp [setBlock, Ne.symm hj]
      have hb2 : W1.heap[w.heap.size]? = some o := by
        rw [← hW1]
        obtain ⟨es, cl, q⟩ := HRWW.out.map.block
        exact heap_setBlock_same q _
      have hsz1 : W1.heap.size = W.heap.size := by rw [← hW1]; simp [setBlock]
      have HOWN1 := Lib.hid (own_keep (HRWW.out.row x) (fun b hb => hb1 b (HRWW.out.ne hb)))
      have HRD1 : Hid (Rd W1 (some ⟨wr.heap.size + 1, 0, none⟩) y.cs) := Lib.hid (by
        rcases HSL.out.1 with h | ⟨b, off, e, hb, hc⟩
        · exact .inl h
        · injection e with e
          injection e with e1 e2
          subst e1
          exact .inr ⟨_, off, by rw [← e2], by have := HSL.out.2; omega, fun j v hv => (World.cell?_of_block (hb1 _ (show wr.heap.size + 1 ≠ w.heap.size by have := HG.out.size; omega))).trans (hc j v hv)⟩)
      obtain ⟨ax, cx, hvx, _⟩ := own_slice (HRWW.out.row x)
      have HVX := Lib.hid hvx
      have HB1 := Lib.hid hb1
      have HB2 := Lib.hid hb2
      have HES := Lib.hid hes
      have HW1 := Lib.hid hW1
      have HLS : Hid ((suc F x).length ≤ 200) := Lib.hid (Nat.le_trans (suc_len F x) HLT.out)
      rw [hvx] at hme
      have hms := HGW.out.size
      have HS1 := Lib.hid hsz1
      unfold Nm.v at hme
      clear hgW hes hW1 hb1 hb2 hsz1 hvx hmlt
      go_wp2_with (at_builtin; (refine wpList_append_rd _ rfl (.tmp 16) (.tmp 19) 28 rfl w.heap.size 24 i0 (.agg #[.int .i64 0, .int .i64 0, .int .i64 0]) 3 24 Try.underlying28 hi0 hz0 hz1 hz2 rfl (by decide) (V x) (suc F x).length (nms (suc F x)) ?ev HOWN1.out (some ⟨wr.heap.size + 1, 0, none⟩) 1 1 y.cs rfl HRD1.out rfl (nms_one [y]) (by have h1 := HLS.out; unfold maxLen; omega) (by have h1 := HLS.out; omega) (by have := HS1.out; omega) ?app))
      case ev => exact HVX.out.symm
      case app =>
        intro v4 w4 hown hgr hbl
        have hno : (V x).ownBlock ≠ some w.heap.size := fun e => HRWW.out.ne e rfl
        have hm4 : w4.heap[w.heap.size]? = some o := (hgr.block _ (by rw [HS1.out]; exact HRWW.out.map.lt) (Ne.symm hno)).trans HB2.out
        obtain ⟨o', hrun, hmp⟩ := HES.out w4 v4 hm4
        have hnx := HRWW.out.next (e := (x, y)) HEO.out HW1.out.symm hown hgr hbl hmp
        have hgr4 : Grows w w4 := ⟨hgr.os.trans (by rw [← HW1.out]; exact HGW.out.os), hgr.tape.trans (by rw [← HW1.out]; exact HGW.out.tape), hgr.output.trans (by rw [← HW1.out]; exact HGW.out.output), Nat.le_trans HGW.out.size (by rw [← HS1.out]; exact hgr.size), fun j hj => by
          have hj1 : j < W1.heap.size := by have := HGW.out.size; have := HS1.out; omega
          rw [hgr.block j hj1 (fun e => by
            obtain ⟨_, _, q, _⟩ := own_typed (HRWW.out.row x) e.symm
            omega), HB1.out j (by omega)]
          exact HGW.out.block j hj⟩
        have hG5 : Grows w (setBlock w4 w.heap.size o') := ⟨hgr4.os, hgr4.tape, hgr4.output, by simp [setBlock]; exact hgr4.size, fun j hj => by
          have : (setBlock w4 w.heap.size o').heap[j]? = w4.heap[j]? := by simp [setBlock, show ¬ w.heap.size = j by omega]
          rw [this]
          exact hgr4.block j hj⟩
        have HNX : Hid (Rw (setBlock w4 w.heap.size o') w.heap.size w.heap.size (E.take (i + 1)) _) := Lib.hid (by rw [HTK.out]; exact hnx)
        have HG5 := Lib.hid hG5
        clear hno hm4 hmp hnx hgr4 hG5 hown hgr hbl hme
        go_wp2_with fail
        go_roundg (gk - 1)
        case measure => omega
        case rel => exact ⟨i + 1, _, by omega, by go_num, HNX.out, HG5.out⟩
    · have hge : ¬ (i : Int) < (n : Int) := by omega
      have HE : Hid (Rw wr w.heap.size w.heap.size E V) := Lib.hid (by have := HRW.out; rwa [List.take_of_length_le (by have := HN.out; omega)] at this)
      clear hlt
      go_wp2_with fail
      go_ret
      exact ⟨_, V, rfl, HE.out, HG.out, Nat.le_refl _⟩
end Go.Proofs.Ytpllcjggjjapoaa
