/-
  Lists of names; age.Waits, age.Oldest.
-/
import Derived.Test.YtilmihmjohjplaaNmB
import Derived.Test.YtilmihmjohjplaaRes
namespace Go.Proofs.Ytilmihmjohjplaa
open Go.RowKit

def nms (l : List Nm) : List Value := l.flatMap Nm.cs
theorem nms_cons (x : Nm) (xs : List Nm) : nms (x :: xs) = x.cs ++ nms xs := by rw [nms, List.flatMap_cons]; rfl
theorem nms_append (a b : List Nm) : nms (a ++ b) = nms a ++ nms b := by simp [nms]
theorem nms_length (l : List Nm) : (nms l).length = l.length * 3 := by
  induction l with
  | nil => rfl
  | cons x xs ih => rw [nms_cons, List.length_append, ih, List.length_cons]; simp [Nm.cs]; omega
theorem nms_drop (l : List Nm) (k : Nat) (hk : k ≤ l.length) : nms (l.drop k) = (nms l).drop (k * 3) := by
  have h2 : nms l = nms (l.take k) ++ nms (l.drop k) := by rw [← nms_append, List.take_append_drop]
  rw [h2, List.drop_left']
  rw [nms_length, List.length_take, Nat.min_eq_left hk]
theorem nms_take (l : List Nm) (k : Nat) (hk : k ≤ l.length) : nms (l.take k) = (nms l).take (k * 3) := by
  have h2 : nms l = nms (l.take k) ++ nms (l.drop k) := by rw [← nms_append, List.take_append_drop]
  rw [h2, List.take_left']
  rw [nms_length, List.length_take, Nat.min_eq_left hk]
theorem nms_get (l : List Nm) (k j : Nat) (hk : k < l.length) (hj : j < 3) : (nms l)[k * 3 + j]? = (l[k].cs)[j]? := by
  rw [← List.getElem?_drop, ← nms_drop l k (by omega), List.drop_eq_getElem_cons hk, nms_cons, List.getElem?_append_left]
  simpa [Nm.cs] using hj
theorem nms_one (l : List Nm) : ∀ u ∈ nms l, u.oneCell' = true := by
  intro u hu
  obtain ⟨x, _, hx⟩ := List.mem_flatMap.1 hu
  simp only [Nm.cs, List.mem_cons, List.not_mem_nil, or_false] at hx
  rcases hx with rfl | rfl | rfl <;> rfl
/-- The three cells of name k. -/
theorem cells3 {w : World} {a : Option Addr} {l : List Nm} (h : Rd w a (nms l)) {k : Nat} (hk : k < l.length) :
    ∃ (g off : Nat), a = some ⟨g, off, none⟩ ∧ g < w.heap.size ∧ w.cell? ⟨g, off + k * 3, none⟩ = some (.int .i64 l[k].s) ∧ w.cell? ⟨g, off + k * 3 + 1, none⟩ = some (.int .i64 l[k].i) ∧ w.cell? ⟨g, off + k * 3 + 2, none⟩ = some (.int .i64 l[k].t) := by
  have hl := nms_length l
  obtain ⟨g, off, rfl, hg, hc⟩ := h.at (by omega)
  have cell : ∀ j v, j < 3 → (l[k].cs)[j]? = some v → w.cell? ⟨g, off + k * 3 + j, none⟩ = some v := by
    intro j v hj hv
    have := hc (k * 3 + j) (by omega)
    rw [show off + k * 3 + j = off + (k * 3 + j) by omega, this, ← hv, ← nms_get l k j hk hj]
    exact (List.getElem?_eq_getElem _).symm
  exact ⟨g, off, rfl, hg, cell 0 _ (by omega) rfl, cell 1 _ (by omega) rfl, cell 2 _ (by omega) rfl⟩

set_option maxHeartbeats 1000000 in
theorem waits_any (x : Nm) (l : List Nm) (n : Nat) (hn : l.length = n) (a : Option Addr) (cap : Nat) (w : World) (hrd : Rd w a (nms l)) (hl : n ≤ 1000000) :
    Calls Try.prog 6 #[x.v, .slice a n cap] w fun e w' => e = .returned (.bool (l.all fun m => decide (x.s < m.s))) ∧ Grows w w' := by
  have Hrd := Lib.hid hrd
  have HN := Lib.hid hn
  clear hrd hn
  unfold Nm.v
  have G0 := (Grows.refl w).alloc (.cells #[.int .i64 x.s, .int .i64 x.i, .int .i64 x.t] 23)
  have A0 := Lib.hid (At.new w 23 #[.int .i64 x.s, .int .i64 x.i, .int .i64 x.t])
  go_enter Try.func6, Try.ntmps6
  go_wp2_with fail
  go_loopg [9] n (fun gh i wr => ∃ (k : Nat), k + gh = n ∧ i = .int .i64 (k : Int) ∧ Grows (w.alloc (.cells #[.int .i64 x.s, .int .i64 x.i, .int .i64 x.t] 23)) wr ∧ (l.all fun m => decide (x.s < m.s)) = (l.drop k).all fun m => decide (x.s < m.s))
  case atStart => exact ⟨0, by omega, rfl, Grows.refl _, rfl⟩
  case round =>
    obtain ⟨k, hk, rfl, hg, hall⟩ := hrel
    have HA := Lib.hid hall
    clear hall
    by_cases hlt : k < n
    · have hkl : k < l.length := by rw [HN.out]; exact hlt
      obtain ⟨g, off, rfl, hgw, c0, c1, c2⟩ := cells3 (Hrd.out.grows (G0.trans hg)) hkl
      have HD : Hid ((l.drop k).all (fun m => decide (x.s < m.s)) = (decide (x.s < l[k].s) && (l.drop (k + 1)).all fun m => decide (x.s < m.s))) := by
        show _ = _
        rw [List.drop_eq_getElem_cons hkl, List.all_cons]
      have hO := fun W => older_any x l[k] W
      generalize l[k] = y at *
      obtain ⟨ys, yi, yt⟩ := y
      simp only at c0 c1 c2 hO HD
      have HO := Lib.hid hO
      unfold Nm.v at HO
      clear hO
      have hlt' : (k : Int) < (n : Int) := by omega
      have hk0 : (0 : Int) ≤ (k : Int) := by omega
      have cx := ((A0.out.grows hg).alloc (.cells #[.int .i64 ys, .int .i64 yi, .int .i64 yt] 23)).cell
      cases hs : decide (x.s < ys)
      · rw [hs] at HO
        have HF : Hid ((l.all fun m => decide (x.s < m.s)) = false) := by show _ = _; rw [HA.out, HD.out, hs]; rfl
        clear hs
        go_wp2_with fail
        refine (HO.out _).mono ?_
        rintro e w1 ⟨rfl, hb1⟩
        go_wp2_with fail
        go_ret
        exact ⟨by rw [HF.out]; rfl, (G0.trans (hg.alloc _)).trans hb1⟩
      · rw [hs] at HO
        have HF : Hid ((l.all fun m => decide (x.s < m.s)) = (l.drop (k + 1)).all fun m => decide (x.s < m.s)) := by show _ = _; rw [HA.out, HD.out, hs]; rfl
        clear hs
        go_wp2_with fail
        refine (HO.out _).mono ?_
        rintro e w1 ⟨rfl, hb1⟩
        clear cx c0 c1 c2
        go_wp2_with fail
        go_roundg (gk - 1)
        case measure => omega
        case rel => exact ⟨k + 1, by omega, by go_num, (hg.alloc _).trans hb1, HF.out⟩
    · obtain rfl : k = n := by omega
      have HF : Hid ((l.all fun m => decide (x.s < m.s)) = true) := by
        show _ = _
        rw [HA.out, List.drop_of_length_le (by rw [HN.out]; exact Nat.le_refl _)]
        rfl
      go_wp2_with fail
      go_ret
      exact ⟨by rw [HF.out]; rfl, G0.trans hg⟩
end Go.Proofs.Ytilmihmjohjplaa
