/-
  age.Oldest, with its closure.
-/
import Derived.Test.YtilmihmjohjplaaNmC
namespace Go.Proofs.Ytilmihmjohjplaa
open Go.RowKit

def least (a b : Nm) : Nm := if lessN b a then b else a
def oldestN (x : Nm) (l : List Nm) : Nm := l.foldl least x
theorem zname (W : World) : (zeroValue 23).run Try.prog W = .ok (.agg #[.int .i64 0, .int .i64 0, .int .i64 0]) W := by kernel_rfl
theorem one3 (a b c : Int) : (#[.int .i64 a, .int .i64 b, .int .i64 c] : Array Value).all (·.oneCell') = true := all_oneCell_toArray (one_ints .i64 [a, b, c])
def arr3 (x : Nm) : Array Value := #[.int .i64 x.s, .int .i64 x.i, .int .i64 x.t]

theorem at_below {w w' : World} {g B : Nat} {t : TypeId} {cs : Array Value} (h : At w g t cs) (hg : g < B) (hb : Below B w w') : At w' g t cs := (hb.block g hg).trans h
theorem below_setCells {B : Nat} {a : World} {b : Nat} (hb : B ≤ b) : ∀ (vs : List Value) {w : World} (o : Nat), Below B a w → Below B a (w.setCells b o vs)
  | [], _, _, h => h
  | v :: vs, w, o, h => by rw [World.setCells]; exact below_setCells hb vs (o + 1) (h.setCell hb v)
set_option maxHeartbeats 1000000 in
theorem see_any (x y : Nm) (g : Nat) (w : World) (h : At w g 23 #[.int .i64 y.s, .int .i64 y.i, .int .i64 y.t]) :
    Calls Try.prog 12 #[x.v, .pointer (some ⟨g, 0, none⟩)] w fun e w' => e = .returned (.tuple #[]) ∧ At w' g 23 (arr3 (least y x)) ∧ Below g w w' := by
  have HA := Lib.hid (h.alloc (.cells #[.int .i64 x.s, .int .i64 x.i, .int .i64 x.t] 23))
  have hgl : g < w.heap.size := h.lt
  have B0 : Below g w (w.alloc (.cells #[.int .i64 x.s, .int .i64 x.i, .int .i64 x.t] 23)) := Below.alloc (Below.refl _ _) (by omega) _
  have cy := HA.out.cell
  have HLs := Lib.hid (fun W => less_any x y W)
  have HL : Hid (least y x = if lessN x y then x else y) := rfl
  generalize least y x = z at *
  generalize lessN x y = b at *
  unfold Nm.v at *
  clear h
  cases b with
  | false =>
    go_enter Try.func12, Try.ntmps12
    go_wp2_with fail
    refine (HLs.out _).mono ?_
    rintro e w1 ⟨rfl, hb1⟩
    clear cy
    go_wp2_with fail
    go_end0
    exact ⟨rfl, by rw [HL.out]; exact HA.out.grows hb1, B0.trans (hb1.mono (by simp; omega))⟩
  | true =>
    go_enter Try.func12, Try.ntmps12
    go_wp2_with fail
    refine (HLs.out _).mono ?_
    rintro e w1 ⟨rfl, hb1⟩
    clear cy
    have X1 := (At.new w 23 #[.int .i64 x.s, .int .i64 x.i, .int .i64 x.t]).grows hb1
    have cx := X1.cell
    have A1 := Lib.hid (HA.out.grows hb1)
    go_wp2_with (with_reducible refine wpList_store_mid (op := ⟨none, .store 23 (.tmp 1) (.tmp 6), _, _, _, none⟩) rfl 23 (.tmp 1) (.tmp 6) rfl (g) (0) #[.int .i64 x.s, .int .i64 x.i, .int .i64 x.t] ?s1a ?s1b ?s1c ?s1d ?s1e ?_)
    case s1a => rfl
    case s1b => rfl
    case s1c => exact A1.out.there 0 3 (by simp)
    case s1d => kernel_rfl
    case s1e => exact one3 _ _ _
    go_end0
    exact ⟨rfl, by rw [HL.out]; exact At.all (vs := [.int .i64 x.s, .int .i64 x.i, .int .i64 x.t]) (cs := [.int .i64 y.s, .int .i64 y.i, .int .i64 y.t]) A1.out rfl, below_setCells (Nat.le_refl _) _ _ (B0.trans (hb1.mono (by simp; omega)))⟩

set_option maxHeartbeats 1000000 in
theorem oldest_none (cap : Nat) (a : Option Addr) (w : World) : Calls Try.prog 8 #[.slice a 0 cap] w fun e w' => e = .returned (.tuple #[.agg #[.int .i64 0, .int .i64 0, .int .i64 0], .bool false]) ∧ Grows w w' := by
  have hz := zname
  have A0 := Lib.hid (At.new w 23 #[.int .i64 0, .int .i64 0, .int .i64 0])
  have G0 := (Grows.refl w).alloc (.cells #[.int .i64 0, .int .i64 0, .int .i64 0] 23)
  go_enter Try.func8, Try.ntmps8
  go_wp2_with (with_reducible refine wpList_store_mid (op := ⟨none, .store 23 (.tmp 2) (.tmp 11), _, _, _, none⟩) rfl 23 (.tmp 2) (.tmp 11) rfl (w.heap.size) (0) #[.int .i64 0, .int .i64 0, .int .i64 0] ?s2a ?s2b ?s2c ?s2d ?s2e ?_)
  case s2a => rfl
  case s2b => rfl
  case s2c => exact A0.out.there 0 3 (by simp)
  case s2d => kernel_rfl
  case s2e => exact one3 _ _ _
  refine bodyPost_ret (results_row_tmp Try.results8 _ _ w.heap.size 23 _ _ rfl (At.all (vs := [.int .i64 0, .int .i64 0, .int .i64 0]) (cs := [.int .i64 0, .int .i64 0, .int .i64 0]) A0.out rfl) Try.underlying23 rfl (by kernel_rfl)) rfl ⟨rfl, Grows.setCells (Nat.le_refl _) _ _ G0⟩

set_option maxHeartbeats 2000000 in
theorem oldest_some (x : Nm) (l : List Nm) (n : Nat) (hn : l.length = n) (a : Option Addr) (cap : Nat) (w : World) (hrd : Rd w a (nms (x :: l))) (hcap : n + 1 ≤ cap) (hl : n ≤ 1000000) :
    Calls Try.prog 8 #[.slice a (n + 1) cap] w fun e w' => e = .returned (.tuple #[(oldestN x l).v, .bool true]) ∧ Grows w w' := by
  obtain ⟨g, off, rfl, hgw, c0, c1, c2⟩ := cells3 hrd (k := 0) (by simp)
  have Hrd := Lib.hid hrd
  have HN := Lib.hid hn
  simp only [Nat.zero_mul, Nat.add_zero, List.getElem_cons_zero] at c0 c1 c2
  have c1' : w.cell? ⟨g, off + 1, none⟩ = some (.int .i64 x.i) := c1
  have c2' : w.cell? ⟨g, off + 2, none⟩ = some (.int .i64 x.t) := c2
  clear c1 c2 hrd hn
  have hz := zname
  have A0 := Lib.hid ((At.new w 23 #[.int .i64 0, .int .i64 0, .int .i64 0]).alloc (.cells #[.int .i64 x.s, .int .i64 x.i, .int .i64 x.t] 23))
  have L0 := At.new (w.alloc (.cells #[.int .i64 0, .int .i64 0, .int .i64 0] 23)) 23 #[.int .i64 x.s, .int .i64 x.i, .int .i64 x.t]
  simp only [World.size_alloc] at L0
  have L0 := Lib.hid L0
  have G0 := ((Grows.refl w).alloc (.cells #[.int .i64 0, .int .i64 0, .int .i64 0] 23)).alloc (.cells #[.int .i64 x.s, .int .i64 x.i, .int .i64 x.t] 23)
  have hn0 : ¬ ((n : Int) + 1 = 0) := by omega
  have hn0' : ((n : Int) + 1 == 0) = false := by simpa using hn0
  have hcc : ((n : Int) + 1) ≤ (cap : Int) := by omega
  have hN1 : w.heap.size < w.heap.size + 1 := by omega
  by_cases hc1 : cap = 1
  · obtain rfl : n = 0 := by omega
    obtain rfl : l = [] := List.eq_nil_of_length_eq_zero HN.out
    subst hc1
    have cl := L0.out.cell
    go_enter Try.func8, Try.ntmps8
    go_wp2_with fail
    refine wp_loop_rounds 1 ?_
    rw [rounds_succ]
    go_wp2_with (with_reducible refine wpList_store_mid (op := ⟨none, .store 23 (.tmp 2) (.tmp 27), _, _, _, none⟩) rfl 23 (.tmp 2) (.tmp 27) rfl (w.heap.size) (0) #[.int .i64 x.s, .int .i64 x.i, .int .i64 x.t] ?s3a ?s3b ?s3c ?s3d ?s3e ?_)
    case s3a => rfl
    case s3b => rfl
    case s3c => exact A0.out.there 0 3 (by simp)
    case s3d => kernel_rfl
    case s3e => exact one3 _ _ _
    refine bodyPost_ret (results_row_tmp Try.results8 _ _ w.heap.size 23 _ _ rfl (At.all (vs := [.int .i64 x.s, .int .i64 x.i, .int .i64 x.t]) (cs := [.int .i64 0, .int .i64 0, .int .i64 0]) A0.out rfl) Try.underlying23 rfl (by kernel_rfl)) rfl ⟨rfl, Grows.setCells (Nat.le_refl _) _ _ G0⟩
  · have hc1' : ¬ (cap : Int) = 1 := by omega
    go_enter Try.func8, Try.ntmps8
    go_wp2_with fail
    clear c0 c1' c2'
    go_loopg [19] n (fun gh i wr => ∃ (k : Nat) (y : Nm), k + gh = n ∧ i = .int .i64 (k : Int) ∧ Grows w wr ∧ At wr w.heap.size 23 #[.int .i64 0, .int .i64 0, .int .i64 0] ∧ At wr (w.heap.size + 1) 23 (arr3 y) ∧ oldestN x l = oldestN y (l.drop k))
    case atStart => exact ⟨0, x, by omega, rfl, G0, A0.out, L0.out, rfl⟩
    case round =>
      obtain ⟨k, y, hk, rfl, hg, hz, hy, ho⟩ := hrel
      have HO := Lib.hid ho
      have HZ := Lib.hid hz
      have HY := Lib.hid hy
      clear ho hz hy
      by_cases hlt : k < n
      · have hkl : k < l.length := by rw [HN.out]; exact hlt
        obtain ⟨g', off', he, _, d0, d1, d2⟩ := cells3 (Hrd.out.grows hg) (k := k + 1) (by simp; exact hkl)
        injection he with he
        injection he with e1 e2
        subst e1
        subst e2
        simp only [List.getElem_cons_succ] at d0 d1 d2
        have HD := Lib.hid (List.drop_eq_getElem_cons hkl)
        generalize l[k] = z at *
        have hS := Lib.hid (fun W hW => see_any z y (w.heap.size + 1) W hW)
        have HO2 : Hid (oldestN x l = oldestN (least y z) (l.drop (k + 1))) := by show _ = _; rw [HO.out, HD.out]; rfl
        have d0' : wr.cell? ⟨g, off + 3 + k * 3, none⟩ = some (.int .i64 z.s) := by rw [← d0]; congr 2; omega
        have d1' : wr.cell? ⟨g, off + 3 + k * 3 + 1, none⟩ = some (.int .i64 z.i) := by rw [← d1]; congr 2; omega
        have d2' : wr.cell? ⟨g, off + 3 + k * 3 + 2, none⟩ = some (.int .i64 z.t) := by rw [← d2]; congr 2; omega
        clear d0 d1 d2
        have hlt' : (k : Int) < (n : Int) := by omega
        have hk0 : (0 : Int) ≤ (k : Int) := by omega
        unfold Nm.v at hS
        go_wp2_with fail
        refine (hS.out _ (HY.out.alloc _)).mono ?_
        rintro e w1 ⟨rfl, hA1, hB1⟩
        have G1 : Grows w w1 := Below.trans (hg.alloc _) (hB1.mono (by omega))
        have Z1 := Lib.hid (at_below (HZ.out.alloc (.cells #[.int .i64 z.s, .int .i64 z.i, .int .i64 z.t] 23)) hN1 hB1)
        have Y1 := Lib.hid hA1
        clear hA1 hB1 d0' d1' d2'
        go_wp2_with fail
        go_roundg (gk - 1)
        case measure => omega
        case rel => exact ⟨k + 1, least y z, by omega, by go_num, G1, Z1.out, Y1.out, HO2.out⟩
      · obtain rfl : k = n := by omega
        have HE : Hid (oldestN x l = y) := by show _ = _; rw [HO.out, List.drop_of_length_le (by rw [HN.out]; exact Nat.le_refl _)]; rfl
        have cy := HY.out.cell
        unfold arr3 at cy
        go_wp2_with (with_reducible refine wpList_store_mid (op := ⟨none, .store 23 (.tmp 2) (.tmp 27), _, _, _, none⟩) rfl 23 (.tmp 2) (.tmp 27) rfl (w.heap.size) (0) #[.int .i64 y.s, .int .i64 y.i, .int .i64 y.t] ?s4a ?s4b ?s4c ?s4d ?s4e ?_)
        case s4a => rfl
        case s4b => rfl
        case s4c => exact HZ.out.there 0 3 (by simp)
        case s4d => kernel_rfl
        case s4e => exact one3 _ _ _
        refine bodyPost_ret (results_row_tmp Try.results8 _ _ w.heap.size 23 _ _ rfl (At.all (vs := [.int .i64 y.s, .int .i64 y.i, .int .i64 y.t]) (cs := [.int .i64 0, .int .i64 0, .int .i64 0]) HZ.out rfl) Try.underlying23 rfl (by kernel_rfl)) rfl ⟨by rw [HE.out]; rfl, Grows.setCells (Nat.le_refl _) _ _ hg⟩
end Go.Proofs.Ytilmihmjohjplaa
