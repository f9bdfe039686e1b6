/-
  route.best and the closures handed to it.
-/
import Derived.Test.YtmoploenbppdbaaRtC
namespace Go.Proofs.Ytmoploenbppdbaa
open Go.RowKit

def ltB (b d : Nat) : Bool := decide (b < d)
def gtB (b d : Nat) : Bool := decide (d < b)
theorem less1 (a b c d : Nat) (hb : b < 32) (hd : d < 32) (w : World) : Calls Try.prog 17 #[cx a b, cx c d] w fun e w' => e = .returned (.bool (ltB b d)) ∧ w = w' := by
  have h := fl_lt hb hd
  unfold cx
  go_enter Try.func17, Try.ntmps17
  go_wp2_with fail
  go_ret
  exact ⟨rfl, rfl⟩
theorem less2 (a b c d : Nat) (hb : b < 32) (hd : d < 32) (w : World) : Calls Try.prog 19 #[cx a b, cx c d] w fun e w' => e = .returned (.bool (ltB b d)) ∧ w = w' := by
  have h := fl_lt hb hd
  unfold cx
  go_enter Try.func19, Try.ntmps19
  go_wp2_with fail
  go_ret
  exact ⟨rfl, rfl⟩
theorem more1 (a b c d : Nat) (hb : b < 32) (hd : d < 32) (w : World) : Calls Try.prog 18 #[cx a b, cx c d] w fun e w' => e = .returned (.bool (gtB b d)) ∧ w = w' := by
  have h := fl_gt hb hd
  unfold cx
  go_enter Try.func18, Try.ntmps18
  go_wp2_with fail
  go_ret
  exact ⟨rfl, rfl⟩

/-- The first of a row than which none is better. -/
def bestOf (p : Nat → Nat → Bool) (x : Nat × Nat) : List (Nat × Nat) → Nat × Nat
  | [] => x
  | y :: ys => bestOf p (if p y.2 x.2 then y else x) ys
def cxs (l : List (Nat × Nat)) : List Value := l.map fun x => cx x.1 x.2

set_option maxHeartbeats 1000000 in
theorem best_less1 (x : Nat × Nat) (l : List (Nat × Nat)) (h32 : ∀ y ∈ x :: l, y.2 < 32) (n : Nat) (hn : l.length = n) (g off cap : Nat) (hcap : n + 1 ≤ cap) (h8 : n ≤ 8) (hc8 : cap ≤ 8) (w : World) (hrd : Rd w (some ⟨g, off, none⟩) (cxs (x :: l))) :
    Calls Try.prog 16 #[.slice (some ⟨g, off, none⟩) (n + 1) cap, .func (.func 17) #[] #[]] w fun e w' => e = .returned (cx (bestOf ltB x l).1 (bestOf ltB x l).2) ∧ w = w' := by
  have HN := Lib.hid hn
  have H32 := Lib.hid h32
  obtain ⟨_, _, he, hgl, hc⟩ := hrd.at (by simp [cxs])
  injection he with he
  injection he with e1 e2
  subst e1
  subst e2
  have hcell : ∀ i (hi : i < (x :: l).length), w.cell? ⟨g, off + i, none⟩ = some (cx (x :: l)[i].1 (x :: l)[i].2) := fun i hi => by
    exact (hc i (by simpa [cxs] using hi)).trans (by simp only [cxs, List.getElem_map])
  have HC := Lib.hid hcell
  have c0 := hcell 0 (by simp)
  simp only [List.getElem_cons_zero, Nat.add_zero] at c0
  clear hn h32 hrd hc hcell
  unfold cx at c0
  have hn0 : (0 : Int) < (n : Int) + 1 := by omega
  have hcp : (1 : Int) ≤ (n : Int) + 1 := by omega
  have hcc : ((n : Int) + 1) ≤ (cap : Int) := by omega
  by_cases hc1 : cap = 1
  · obtain rfl : n = 0 := by omega
    obtain rfl : l = [] := List.eq_nil_of_length_eq_zero HN.out
    subst hc1
    unfold cx
    go_enter Try.func16, Try.ntmps16
    go_wp2_with fail
    refine wp_loop_rounds 1 ?_
    rw [rounds_succ]
    go_wp2_with fail
    go_ret
    exact ⟨rfl, rfl⟩
  · have hc1' : ¬ (cap : Int) = 1 := by omega
    go_enter Try.func16, Try.ntmps16
    go_wp2_with fail
    go_loopg [5, 14] n (fun gh t i wr => ∃ (k : Nat) (b : Nat × Nat), k + gh = n ∧ i = .int .i64 (k : Int) ∧ t = cx b.1 b.2 ∧ b.2 < 32 ∧ bestOf ltB x l = bestOf ltB b (l.drop k) ∧ w = wr)
    case atStart => exact ⟨0, x, by omega, rfl, rfl, H32.out x (by simp), rfl, rfl⟩
    case round =>
      obtain ⟨k, b, hk, rfl, rfl, hb, hbest, rfl⟩ := hrel
      have HB := Lib.hid hbest
      clear hbest
      by_cases hlt : k < n
      · have hlt' : (k : Int) < (n : Int) := by omega
        have hk0 : (0 : Int) ≤ (k : Int) := by omega
        have hkl : k < l.length := by rw [HN.out]; exact hlt
        have ck := HC.out (k + 1) (by simp; exact hkl)
        have hy := H32.out l[k] (by simp)
        simp only [List.getElem_cons_succ] at ck
        have hd : l.drop k = l[k] :: l.drop (k + 1) := List.drop_eq_getElem_cons hkl
        generalize l[k] = y at *
        obtain ⟨y1, y2⟩ := y
        obtain ⟨b1, b2⟩ := b
        simp only at ck hy hb
        have HD := Lib.hid hd
        have ck' : w.cell? ⟨g, off + 1 + k, none⟩ = some (.complex .f64 (floatOfInt .f64 (y1 : Int)) (floatOfInt .f64 (y2 : Int))) := by rw [show off + 1 + k = off + (k + 1) by omega]; exact ck
        clear ck hd
        have HFk := Lib.hid (less1 y1 y2 b1 b2 hy hb w)
        unfold cx at *
        cases hp : ltB y2 b2
        · have HN2 : Hid (bestOf ltB x l = bestOf ltB (b1, b2) (l.drop (k + 1))) := by
            show _ = _
            rw [HB.out, HD.out, bestOf]
            simp [hp]
          go_wp2_with fail
          refine HFk.out.mono ?_
          rw [hp]
          rintro e w1 ⟨rfl, rfl⟩
          go_wp2_with fail
          go_roundg (gk - 1)
          case measure => omega
          case rel => exact ⟨k + 1, (b1, b2), by omega, by go_num, rfl, hb, HN2.out, rfl⟩
        · have HN2 : Hid (bestOf ltB x l = bestOf ltB (y1, y2) (l.drop (k + 1))) := by
            show _ = _
            rw [HB.out, HD.out, bestOf]
            simp [hp]
          go_wp2_with fail
          refine HFk.out.mono ?_
          rw [hp]
          rintro e w1 ⟨rfl, rfl⟩
          go_wp2_with fail
          go_roundg (gk - 1)
          case measure => omega
          case rel => exact ⟨k + 1, (y1, y2), by omega, by go_num, rfl, hy, HN2.out, rfl⟩
      · obtain rfl : k = n := by omega
        have HE : Hid (bestOf ltB x l = b) := by
          show _ = _
          rw [HB.out, List.drop_of_length_le (by rw [HN.out]; exact Nat.le_refl _)]
          rfl
        unfold cx at *
        go_wp2_with fail
        go_ret
        exact ⟨by rw [HE.out]; rfl, rfl⟩
set_option maxHeartbeats 1000000 in
theorem best_less2 (x : Nat × Nat) (l : List (Nat × Nat)) (h32 : ∀ y ∈ x :: l, y.2 < 32) (n : Nat) (hn : l.length = n) (g off cap : Nat) (hcap : n + 1 ≤ cap) (h8 : n ≤ 8) (hc8 : cap ≤ 8) (w : World) (hrd : Rd w (some ⟨g, off, none⟩) (cxs (x :: l))) :
    Calls Try.prog 16 #[.slice (some ⟨g, off, none⟩) (n + 1) cap, .func (.func 19) #[] #[]] w fun e w' => e = .returned (cx (bestOf ltB x l).1 (bestOf ltB x l).2) ∧ w = w' := by
  have HN := Lib.hid hn
  have H32 := Lib.hid h32
  obtain ⟨_, _, he, hgl, hc⟩ := hrd.at (by simp [cxs])
  injection he with he
  injection he with e1 e2
  subst e1
  subst e2
  have hcell : ∀ i (hi : i < (x :: l).length), w.cell? ⟨g, off + i, none⟩ = some (cx (x :: l)[i].1 (x :: l)[i].2) := fun i hi => by
    exact (hc i (by simpa [cxs] using hi)).trans (by simp only [cxs, List.getElem_map])
  have HC := Lib.hid hcell
  have c0 := hcell 0 (by simp)
  simp only [List.getElem_cons_zero, Nat.add_zero] at c0
  clear hn h32 hrd hc hcell
  unfold cx at c0
  have hn0 : (0 : Int) < (n : Int) + 1 := by omega
  have hcp : (1 : Int) ≤ (n : Int) + 1 := by omega
  have hcc : ((n : Int) + 1) ≤ (cap : Int) := by omega
  by_cases hc1 : cap = 1
  · obtain rfl : n = 0 := by omega
    obtain rfl : l = [] := List.eq_nil_of_length_eq_zero HN.out
    subst hc1
    unfold cx
    go_enter Try.func16, Try.ntmps16
    go_wp2_with fail
    refine wp_loop_rounds 1 ?_
    rw [rounds_succ]
    go_wp2_with fail
    go_ret
    exact ⟨rfl, rfl⟩
  · have hc1' : ¬ (cap : Int) = 1 := by omega
    go_enter Try.func16, Try.ntmps16
    go_wp2_with fail
    go_loopg [5, 14] n (fun gh t i wr => ∃ (k : Nat) (b : Nat × Nat), k + gh = n ∧ i = .int .i64 (k : Int) ∧ t = cx b.1 b.2 ∧ b.2 < 32 ∧ bestOf ltB x l = bestOf ltB b (l.drop k) ∧ w = wr)
    case atStart => exact ⟨0, x, by omega, rfl, rfl, H32.out x (by simp), rfl, rfl⟩
    case round =>
      obtain ⟨k, b, hk, rfl, rfl, hb, hbest, rfl⟩ := hrel
      have HB := Lib.hid hbest
      clear hbest
      by_cases hlt : k < n
      · have hlt' : (k : Int) < (n : Int) := by omega
        have hk0 : (0 : Int) ≤ (k : Int) := by omega
        have hkl : k < l.length := by rw [HN.out]; exact hlt
        have ck := HC.out (k + 1) (by simp; exact hkl)
        have hy := H32.out l[k] (by simp)
        simp only [List.getElem_cons_succ] at ck
        have hd : l.drop k = l[k] :: l.drop (k + 1) := List.drop_eq_getElem_cons hkl
        generalize l[k] = y at *
        obtain ⟨y1, y2⟩ := y
        obtain ⟨b1, b2⟩ := b
        simp only at ck hy hb
        have HD := Lib.hid hd
        have ck' : w.cell? ⟨g, off + 1 + k, none⟩ = some (.complex .f64 (floatOfInt .f64 (y1 : Int)) (floatOfInt .f64 (y2 : Int))) := by rw [show off + 1 + k = off + (k + 1) by omega]; exact ck
        clear ck hd
        have HFk := Lib.hid (less2 y1 y2 b1 b2 hy hb w)
        unfold cx at *
        cases hp : ltB y2 b2
        · have HN2 : Hid (bestOf ltB x l = bestOf ltB (b1, b2) (l.drop (k + 1))) := by
            show _ = _
            rw [HB.out, HD.out, bestOf]
            simp [hp]
          go_wp2_with fail
          refine HFk.out.mono ?_
          rw [hp]
          rintro e w1 ⟨rfl, rfl⟩
          go_wp2_with fail
          go_roundg (gk - 1)
          case measure => omega
          case rel => exact ⟨k + 1, (b1, b2), by omega, by go_num, rfl, hb, HN2.out, rfl⟩
        · have HN2 : Hid (bestOf ltB x l = bestOf ltB (y1, y2) (l.drop (k + 1))) := by
            show _ = _
            rw [HB.out, HD.out, bestOf]
            simp [hp]
          go_wp2_with fail
          refine HFk.out.mono ?_
          rw [hp]
          rintro e w1 ⟨rfl, rfl⟩
          go_wp2_with fail
          go_roundg (gk - 1)
          case measure => omega
          case rel => exact ⟨k + 1, (y1, y2), by omega, by go_num, rfl, hy, HN2.out, rfl⟩
      · obtain rfl : k = n := by omega
        have HE : Hid (bestOf ltB x l = b) := by
          show _ = _
          rw [HB.out, List.drop_of_length_le (by rw [HN.out]; exact Nat.le_refl _)]
          rfl
        unfold cx at *
        go_wp2_with fail
        go_ret
        exact ⟨by rw [HE.out]; rfl, rfl⟩
set_option maxHeartbeats 1000000 in
theorem best_more1 (x : Nat × Nat) (l : List (Nat × Nat)) (h32 : ∀ y ∈ x :: l, y.2 < 32) (n : Nat) (hn : l.length = n) (g off cap : Nat) (hcap : n + 1 ≤ cap) (h8 : n ≤ 8) (hc8 : cap ≤ 8) (w : World) (hrd : Rd w (some ⟨g, off, none⟩) (cxs (x :: l))) :
    Calls Try.prog 16 #[.slice (some ⟨g, off, none⟩) (n + 1) cap, .func (.func 18) #[] #[]] w fun e w' => e = .returned (cx (bestOf gtB x l).1 (bestOf gtB x l).2) ∧ w = w' := by
  have HN := Lib.hid hn
  have H32 := Lib.hid h32
  obtain ⟨_, _, he, hgl, hc⟩ := hrd.at (by simp [cxs])
  injection he with he
  injection he with e1 e2
  subst e1
  subst e2
  have hcell : ∀ i (hi : i < (x :: l).length), w.cell? ⟨g, off + i, none⟩ = some (cx (x :: l)[i].1 (x :: l)[i].2) := fun i hi => by
    exact (hc i (by simpa [cxs] using hi)).trans (by simp only [cxs, List.getElem_map])
  have HC := Lib.hid hcell
  have c0 := hcell 0 (by simp)
  simp only [List.getElem_cons_zero, Nat.add_zero] at c0
  clear hn h32 hrd hc hcell
  unfold cx at c0
  have hn0 : (0 : Int) < (n : Int) + 1 := by omega
  have hcp : (1 : Int) ≤ (n : Int) + 1 := by omega
  have hcc : ((n : Int) + 1) ≤ (cap : Int) := by omega
  by_cases hc1 : cap = 1
  · obtain rfl : n = 0 := by omega
    obtain rfl : l = [] := List.eq_nil_of_length_eq_zero HN.out
    subst hc1
    unfold cx
    go_enter Try.func16, Try.ntmps16
    go_wp2_with fail
    refine wp_loop_rounds 1 ?_
    rw [rounds_succ]
    go_wp2_with fail
    go_ret
    exact ⟨rfl, rfl⟩
  · have hc1' : ¬ (cap : Int) = 1 := by omega
    go_enter Try.func16, Try.ntmps16
    go_wp2_with fail
    go_loopg [5, 14] n (fun gh t i wr => ∃ (k : Nat) (b : Nat × Nat), k + gh = n ∧ i = .int .i64 (k : Int) ∧ t = cx b.1 b.2 ∧ b.2 < 32 ∧ bestOf gtB x l = bestOf gtB b (l.drop k) ∧ w = wr)
    case atStart => exact ⟨0, x, by omega, rfl, rfl, H32.out x (by simp), rfl, rfl⟩
    case round =>
      obtain ⟨k, b, hk, rfl, rfl, hb, hbest, rfl⟩ := hrel
      have HB := Lib.hid hbest
      clear hbest
      by_cases hlt : k < n
      · have hlt' : (k : Int) < (n : Int) := by omega
        have hk0 : (0 : Int) ≤ (k : Int) := by omega
        have hkl : k < l.length := by rw [HN.out]; exact hlt
        have ck := HC.out (k + 1) (by simp; exact hkl)
        have hy := H32.out l[k] (by simp)
        simp only [List.getElem_cons_succ] at ck
        have hd : l.drop k = l[k] :: l.drop (k + 1) := List.drop_eq_getElem_cons hkl
        generalize l[k] = y at *
        obtain ⟨y1, y2⟩ := y
        obtain ⟨b1, b2⟩ := b
        simp only at ck hy hb
        have HD := Lib.hid hd
        have ck' : w.cell? ⟨g, off + 1 + k, none⟩ = some (.complex .f64 (floatOfInt .f64 (y1 : Int)) (floatOfInt .f64 (y2 : Int))) := by rw [show off + 1 + k = off + (k + 1) by omega]; exact ck
        clear ck hd
        have HFk := Lib.hid (more1 y1 y2 b1 b2 hy hb w)
        unfold cx at *
        cases hp : gtB y2 b2
        · have HN2 : Hid (bestOf gtB x l = bestOf gtB (b1, b2) (l.drop (k + 1))) := by
            show _ = _
            rw [HB.out, HD.out, bestOf]
            simp [hp]
          go_wp2_with fail
          refine HFk.out.mono ?_
          rw [hp]
          rintro e w1 ⟨rfl, rfl⟩
          go_wp2_with fail
          go_roundg (gk - 1)
          case measure => omega
          case rel => exact ⟨k + 1, (b1, b2), by omega, by go_num, rfl, hb, HN2.out, rfl⟩
        · have HN2 : Hid (bestOf gtB x l = bestOf gtB (y1, y2) (l.drop (k + 1))) := by
            show _ = _
            rw [HB.out, HD.out, bestOf]
            simp [hp]
          go_wp2_with fail
          refine HFk.out.mono ?_
          rw [hp]
          rintro e w1 ⟨rfl, rfl⟩
          go_wp2_with fail
          go_roundg (gk - 1)
          case measure => omega
          case rel => exact ⟨k + 1, (y1, y2), by omega, by go_num, rfl, hy, HN2.out, rfl⟩
      · obtain rfl : k = n := by omega
        have HE : Hid (bestOf gtB x l = b) := by
          show _ = _
          rw [HB.out, List.drop_of_length_le (by rw [HN.out]; exact Nat.le_refl _)]
          rfl
        unfold cx at *
        go_wp2_with fail
        go_ret
        exact ⟨by rw [HE.out]; rfl, rfl⟩
end Go.Proofs.Ytmoploenbppdbaa
