/-
  route.Next, and the law's wakes.
-/
import Derived.Test.YtmoploenbppdbaaRtE
namespace Go.Proofs.Ytmoploenbppdbaa
open Go.RowKit

def lastIx (M : List Int) (x : Int) : Nat → Nat
  | 0 => 0
  | k + 1 => if M.getD k 0 = x then k else lastIx M x k
def nextR (M : List Int) (n : Int) : Option (Nat × Nat) :=
  if okR M && isS n then (if (srcF (cnt M) n.toNat).2 then some (lastIx M (srcF (cnt M) n.toNat).1 8, (poor (cnt M) n.toNat).1) else none) else none
def nextV : Option (Nat × Nat) → Value
  | some c => .tuple #[.agg #[.int .i64 ((c.1 : Nat) : Int), .int .i64 ((c.2 : Nat) : Int)], .bool true]
  | none => .tuple #[.agg #[.int .i64 0, .int .i64 0], .bool false]
theorem zch (W : World) : (zeroValue 25).run Try.prog W = .ok (.agg #[.int .i64 0, .int .i64 0]) W := by kernel_rfl
theorem one2 (a b : Int) : (#[.int .i64 a, .int .i64 b] : Array Value).all (·.oneCell') = true := all_oneCell_toArray (one_ints .i64 [a, b])
theorem cnt_le (M : List Int) (h8 : M.length = 8) (i : Nat) : cnt M i ≤ 8 := by
  rw [← h8]; exact List.count_le_length

set_option maxHeartbeats 1000000 in
theorem next_bad (o0 o1 o2 o3 o4 o5 o6 o7 : Int) (M : List Int) (hM : [o0, o1, o2, o3, o4, o5, o6, o7] = M) (n : Int) (h : (okR M && isS n) = false) (w : World) :
    Calls Try.prog 7 #[.agg #[.int .i64 o0, .int .i64 o1, .int .i64 o2, .int .i64 o3, .int .i64 o4, .int .i64 o5, .int .i64 o6, .int .i64 o7], .int .i64 n] w fun e w' => e = .returned (.tuple #[.agg #[.int .i64 0, .int .i64 0], .bool false]) ∧ Grows w w' := by
  have hz := zch
  have hz2 := z41
  have A0 := At.new (w.alloc (.cells #[.int .i64 o0, .int .i64 o1, .int .i64 o2, .int .i64 o3, .int .i64 o4, .int .i64 o5, .int .i64 o6, .int .i64 o7] 22)) 25 #[.int .i64 0, .int .i64 0]
  have M0 := ((At.new w 22 #[.int .i64 o0, .int .i64 o1, .int .i64 o2, .int .i64 o3, .int .i64 o4, .int .i64 o5, .int .i64 o6, .int .i64 o7]).alloc (.cells #[.int .i64 0, .int .i64 0] 25))
  have G0 := ((((Grows.refl w).alloc (.cells #[.int .i64 o0, .int .i64 o1, .int .i64 o2, .int .i64 o3, .int .i64 o4, .int .i64 o5, .int .i64 o6, .int .i64 o7] 22)).alloc (.cells #[.int .i64 0, .int .i64 0] 25)))
  simp only [World.size_alloc] at A0
  have HA0 := Lib.hid A0
  have HM0 := Lib.hid M0
  have hMay : ∀ W, Calls Try.prog 6 #[.agg #[.int .i64 o0, .int .i64 o1, .int .i64 o2, .int .i64 o3, .int .i64 o4, .int .i64 o5, .int .i64 o6, .int .i64 o7]] W fun e w' => e = .returned (.bool (okR M)) ∧ Grows W w' := fun W => may_any o0 o1 o2 o3 o4 o5 o6 o7 M hM W
  have HMay := Lib.hid hMay
  clear A0 M0 hMay
  clear hM
  go_enter Try.func7, Try.ntmps7
  go_wp2_with fail
  refine (HMay.out _).mono ?_
  rintro e w1 ⟨rfl, hb1⟩
  have A1 := Lib.hid (HA0.out.grows hb1)
  have G1 := G0.trans hb1
  cases hR : okR M with
  | false =>
    go_wp2_with (with_reducible refine wpList_store_mid (op := ⟨none, .store 25 (.tmp 4) (.tmp 21), _, _, _, none⟩) rfl 25 (.tmp 4) (.tmp 21) rfl (w.heap.size + 1) (0) #[.int .i64 0, .int .i64 0] ?s1a ?s1b ?s1c ?s1d ?s1e ?_)
    case s1a => rfl
    case s1b => rfl
    case s1c => exact A1.out.there 0 2 (by simp)
    case s1d => kernel_rfl
    case s1e => exact one2 _ _
    refine bodyPost_ret (results_row_tmp Try.results7 _ _ (w.heap.size + 1) 25 _ _ rfl (At.all (vs := ints [0, 0]) (cs := ints [0, 0]) A1.out rfl) Try.underlying25 rfl (by kernel_rfl)) rfl ⟨rfl, Grows.setCells (by omega) _ _ G1⟩
  | true =>
    have hS : isS n = false := by simpa [hR] using h
    clear h
    go_wp2_with fail
    refine (shardIs_any _ _).mono ?_
    rw [hS]
    rintro e w2 ⟨rfl, rfl⟩
    go_wp2_with (with_reducible refine wpList_store_mid (op := ⟨none, .store 25 (.tmp 4) (.tmp 21), _, _, _, none⟩) rfl 25 (.tmp 4) (.tmp 21) rfl (w.heap.size + 1) (0) #[.int .i64 0, .int .i64 0] ?s2a ?s2b ?s2c ?s2d ?s2e ?_)
    case s2a => rfl
    case s2b => rfl
    case s2c => exact A1.out.there 0 2 (by simp)
    case s2d => kernel_rfl
    case s2e => exact one2 _ _
    refine bodyPost_ret (results_row_tmp Try.results7 _ _ (w.heap.size + 1) 25 _ _ rfl (At.all (vs := ints [0, 0]) (cs := ints [0, 0]) A1.out rfl) Try.underlying25 rfl (by kernel_rfl)) rfl ⟨rfl, Grows.setCells (by omega) _ _ G1⟩

theorem lastIx_succ (M : List Int) (x : Int) (k : Nat) : lastIx M x (k + 1) = if M.getD k 0 = x then k else lastIx M x k := rfl
set_option maxHeartbeats 2000000 in
theorem next_go (o0 o1 o2 o3 o4 o5 o6 o7 : Int) (M : List Int) (hM : [o0, o1, o2, o3, o4, o5, o6, o7] = M) (n : Nat) (h1 : 1 ≤ n) (h4 : n ≤ 4) (hR : okR M = true) (w : World) :
    Calls Try.prog 7 #[.agg #[.int .i64 o0, .int .i64 o1, .int .i64 o2, .int .i64 o3, .int .i64 o4, .int .i64 o5, .int .i64 o6, .int .i64 o7], .int .i64 (n : Int)] w fun e w' => e = .returned (nextV (nextR M n)) ∧ Grows w w' := by
  have h8 : M.length = 8 := by rw [← hM]; rfl
  have hS : isS (n : Int) = true := by simp [isS]; omega
  have hnR : nextR M n = if (srcF (cnt M) n).2 then some (lastIx M (srcF (cnt M) n).1 8, (poor (cnt M) n).1) else none := by
    simp [nextR, hR, hS]
  have hix : ∀ (k : Nat) (W : World), k < 8 → (Instr.index 22 (.agg #[.int .i64 o0, .int .i64 o1, .int .i64 o2, .int .i64 o3, .int .i64 o4, .int .i64 o5, .int .i64 o6, .int .i64 o7]) (.int .i64 (k : Int))).run Try.prog W = .ok (.int .i64 (M.getD k 0)) W := fun k W hk => by rw [← hM]; exact idx8 o0 o1 o2 o3 o4 o5 o6 o7 k hk W
  have HX := Lib.hid hix
  have hcl := cnt_le M h8
  have hpl := Lib.hid (fun W => places_any o0 o1 o2 o3 o4 o5 o6 o7 M hM hR W)
  have hsr := Lib.hid (fun W => source_any (cnt M) hcl n h1 h4 W)
  have hpo : ∀ (g : Nat) (W : World), At W g 41 (qs (cnt M)).toArray → Calls Try.prog 16 #[.slice (some ⟨g, 1, none⟩) n 4, .func (.func 17) #[] #[]] W fun e w' => e = .returned (cx (poor (cnt M) n).1 (poor (cnt M) n).2) ∧ W = w' := fun g W hA => by
    have := poor_call1 (cnt M) hcl (n - 1) (by omega) hA
    rwa [show n - 1 + 1 = n by omega] at this
  have hpb : (poor (cnt M) n).1 ≤ n := (best_is ltB (cnt M) n h1).2.1
  have hsl : ∀ (g : Nat) (W : World), (Instr.sliceAt 41 (.pointer (some ⟨g, 0, none⟩)) (some (.int .i64 1)) (some (.int .i64 ((n : Int) + 1))) none).run Try.prog W = .ok (.slice (some ⟨g, 1, none⟩) n 4) W := fun g W => by
    have := run_sliceAt_lh W Try.underlying41 1 (by kernel_rfl) g 0 .i64 .i64 1 (n + 1) (by omega) (by omega)
    rw [if_neg (by omega)] at this
    exact this
  have HPO := Lib.hid hpo
  have hz := zch
  have hz2 := z41
  have A0 := At.new (w.alloc (.cells #[.int .i64 o0, .int .i64 o1, .int .i64 o2, .int .i64 o3, .int .i64 o4, .int .i64 o5, .int .i64 o6, .int .i64 o7] 22)) 25 #[.int .i64 0, .int .i64 0]
  have M0 := ((At.new w 22 #[.int .i64 o0, .int .i64 o1, .int .i64 o2, .int .i64 o3, .int .i64 o4, .int .i64 o5, .int .i64 o6, .int .i64 o7]).alloc (.cells #[.int .i64 0, .int .i64 0] 25))
  have G0 := ((((Grows.refl w).alloc (.cells #[.int .i64 o0, .int .i64 o1, .int .i64 o2, .int .i64 o3, .int .i64 o4, .int .i64 o5, .int .i64 o6, .int .i64 o7] 22)).alloc (.cells #[.int .i64 0, .int .i64 0] 25)))
  simp only [World.size_alloc] at A0
  have HA0 := Lib.hid A0
  have HM0 := Lib.hid M0
  have hMay : ∀ W, Calls Try.prog 6 #[.agg #[.int .i64 o0, .int .i64 o1, .int .i64 o2, .int .i64 o3, .int .i64 o4, .int .i64 o5, .int .i64 o6, .int .i64 o7]] W fun e w' => e = .returned (.bool (okR M)) ∧ Grows W w' := fun W => may_any o0 o1 o2 o3 o4 o5 o6 o7 M hM W
  have HMay := Lib.hid hMay
  clear A0 M0 hMay
  generalize hf : cnt M = f at *
  generalize srcF f n = SR at *
  generalize poor f n = Po at *
  obtain ⟨S1, S2⟩ := SR
  obtain ⟨P1, P2⟩ := Po
  simp only at hnR hpb
  have HNR := Lib.hid hnR
  generalize nextR M n = NR at *
  have hcv := fun W => cv_int W P1 (by omega)
  clear hM hnR hcl h8 hix hpo hf
  go_enter Try.func7, Try.ntmps7
  go_wp2_with fail
  refine (HMay.out _).mono ?_
  rw [hR]
  rintro e w1 ⟨rfl, hb1⟩
  go_wp2_with fail
  refine (shardIs_any _ _).mono ?_
  rw [hS]
  rintro e w2 ⟨rfl, rfl⟩
  have M1 := Lib.hid (HM0.out.grows hb1)
  have cm := M1.out.cell
  go_wp2_with fail
  refine (hpl.out _).mono ?_
  rintro e w2 ⟨rfl, hb2⟩
  clear cm
  generalize hq : (qs f).toArray = Q at *
  have hq5 : Q.size = 5 := by rw [← hq]; rfl
  have hQ1 : Q.all (·.oneCell') = true := by rw [← hq]; exact one_qs f
  have HQ5 := Lib.hid hq5
  have HQ1 := Lib.hid hQ1
  have N2 := Lib.hid (At.new w2 41 (pl 0).toArray)
  have hs2 : w.heap.size + 1 < w2.heap.size := ((HA0.out.grows hb1).grows hb2).lt
  have M2 := Lib.hid (((M1.out.grows hb2).alloc (.cells (pl 0).toArray 41)).keep (b := w2.heap.size) (by omega) 0 Q.toList)
  have A2 := Lib.hid ((((HA0.out.grows hb1).grows hb2).alloc (.cells (pl 0).toArray 41)).keep (b := w2.heap.size) (by omega) 0 Q.toList)
  have G2 := (G0.trans hb1).trans hb2
  have G3 := Grows.setCells (a := w) (b := w2.heap.size) (by omega) Q.toList 0 (G2.alloc (.cells (pl 0).toArray 41))
  have N3 : At ((w2.alloc (.cells (pl 0).toArray 41)).setCells w2.heap.size 0 Q.toList) w2.heap.size 41 Q := by
    have := At.all (vs := Q.toList) N2.out (by simp [HQ5.out, pl])
    simpa using this
  have HN3 := Lib.hid N3
  clear hq5 hQ1 N3
  have hP0 : (pl 0).toArray.size = 5 := by simp [pl]
  generalize pl 0 = P0 at *
  have HP0 := Lib.hid hP0
  clear hP0
  go_wp2_with (first | (with_reducible refine wpList_store_mid (op := ⟨none, .store 41 (.tmp 6) (.tmp 23), _, _, _, none⟩) rfl 41 (.tmp 6) (.tmp 23) rfl w2.heap.size 0 Q rfl rfl ?b3 ?b4 ?b5 ?_) | (with_reducible refine wpList_load_row (o := ⟨some 25, .load 41 (.tmp 6), _, _, _, none⟩) rfl 41 (.tmp 6) rfl w2.heap.size rfl 41 Q (0, 0) (.array 5 40) ?a2 ?a3 rfl ?a5 ?_))
  case b3 => rw [HQ5.out]; exact N2.out.there 0 5 (by rw [HP0.out]; decide)
  case b4 => rw [HQ5.out]; kernel_rfl
  case b5 => exact HQ1.out
  case a2 => exact HN3.out
  case a3 => exact Try.underlying41
  case a5 => rw [HQ5.out]; kernel_rfl
  generalize hW3 : (w2.alloc (.cells P0.toArray 41)).setCells w2.heap.size 0 Q.toList = w3 at *
  clear hW3
  refine (hsr.out _).mono ?_
  rintro e w4 ⟨rfl, hb4⟩
  have M4 := Lib.hid (M2.out.grows hb4)
  have A4 := Lib.hid (A2.out.grows hb4)
  have N4 := Lib.hid (HN3.out.grows hb4)
  have G4 := G3.trans hb4
  cases S2 with
  | false =>
    have HR : Hid (NR = none) := by show _ = _; rw [HNR.out]; rfl
    go_wp2_with (with_reducible refine wpList_store_mid (op := ⟨none, .store 25 (.tmp 4) (.tmp 32), _, _, _, none⟩) rfl 25 (.tmp 4) (.tmp 32) rfl (w.heap.size + 1) (0) #[.int .i64 0, .int .i64 0] ?s3a ?s3b ?s3c ?s3d ?s3e ?_)
    case s3a => rfl
    case s3b => rfl
    case s3c => exact A4.out.there 0 2 (by simp)
    case s3d => kernel_rfl
    case s3e => exact one2 _ _
    refine bodyPost_ret (results_row_tmp Try.results7 _ _ (w.heap.size + 1) 25 _ _ rfl (At.all (vs := ints [0, 0]) (cs := ints [0, 0]) A4.out rfl) Try.underlying25 rfl (by kernel_rfl)) rfl ⟨by rw [HR.out]; rfl, Grows.setCells (by omega) _ _ G4⟩
  | true =>
    have HR : Hid (NR = some (lastIx M S1 8, P1)) := by show _ = _; rw [HNR.out]; rfl
    clear HNR
    go_wp2_with fail
    refine (HPO.out _ _ N4.out).mono ?_
    rintro e w5 ⟨rfl, rfl⟩
    unfold cx
    have M5 := Lib.hid (M4.out.alloc (.cells #[.int .i64 0, .int .i64 (P1 : Int)] 25))
    have A5 := Lib.hid (A4.out.alloc (.cells #[.int .i64 0, .int .i64 (P1 : Int)] 25))
    have C5 := Lib.hid (At.new w4 25 #[.int .i64 0, .int .i64 (P1 : Int)])
    have G5 := G4.alloc (.cells #[.int .i64 0, .int .i64 (P1 : Int)] 25)
    have hs4 : w.heap.size + 1 < w4.heap.size := A4.out.lt
    have cm := M5.out.cell
    go_wp2_with fail
    clear cm
    go_loopg [42] 8 (fun gh i wr => ∃ (k : Nat), k + gh = 8 ∧ i = .int .i64 (k : Int) ∧ Grows w wr ∧ At wr (w.heap.size + 1) 25 #[.int .i64 0, .int .i64 0] ∧ At wr w4.heap.size 25 #[.int .i64 ((lastIx M S1 k : Nat) : Int), .int .i64 (P1 : Int)])
    case atStart => exact ⟨0, by omega, rfl, G5, A5.out, C5.out⟩
    case round =>
      obtain ⟨k, hk, rfl, hg, ha, hc⟩ := hrel
      have HA := Lib.hid ha
      have HC := Lib.hid hc
      clear ha hc
      by_cases hlt : k < 8
      · have hlt' : (k : Int) < 8 := by omega
        have hk0 : (0 : Int) ≤ (k : Int) := by omega
        have hix := fun W => HX.out k W hlt
        have HLS := lastIx_succ M S1 k
        generalize M.getD k 0 = s at *
        by_cases hs : s = (S1 : Int)
        · have hs' : (s == (S1 : Int)) = true := by simpa using hs
          rw [if_pos hs] at HLS
          have HLS := Lib.hid HLS
          have cc := HC.out.cell
          have fc := HC.out.frozen
          generalize lastIx M S1 k = lk at *
          clear hs
          go_wp2_with fail
          go_roundg (gk - 1)
          case measure => omega
          case rel => exact ⟨k + 1, by omega, by go_num, hg.setCell (by simp; omega) _, HA.out.far (by simp; omega) _, by rw [HLS.out]; exact HC.out.set 0 _⟩
        · have hs' : (s == (S1 : Int)) = false := by simpa using hs
          rw [if_neg hs] at HLS
          have HLS := Lib.hid HLS
          clear hs
          go_wp2_with fail
          go_roundg (gk - 1)
          case measure => omega
          case rel => exact ⟨k + 1, by omega, by go_num, hg, HA.out, by rw [HLS.out]; exact HC.out⟩
      · obtain rfl : k = 8 := by omega
        have cc := HC.out.cell
        generalize lastIx M S1 8 = lk at *
        go_wp2_with (with_reducible refine wpList_store_mid (op := ⟨none, .store 25 (.tmp 4) (.tmp 52), _, _, _, none⟩) rfl 25 (.tmp 4) (.tmp 52) rfl (w.heap.size + 1) (0) #[.int .i64 (lk : Int), .int .i64 (P1 : Int)] ?s4a ?s4b ?s4c ?s4d ?s4e ?_)
        case s4a => rfl
        case s4b => rfl
        case s4c => exact HA.out.there 0 2 (by simp)
        case s4d => kernel_rfl
        case s4e => exact one2 _ _
        refine bodyPost_ret (results_row_tmp Try.results7 _ _ (w.heap.size + 1) 25 _ _ rfl (At.all (vs := ints [(lk : Int), (P1 : Int)]) (cs := ints [0, 0]) HA.out rfl) Try.underlying25 rfl (by kernel_rfl)) rfl ⟨by rw [HR.out]; rfl, Grows.setCells (by omega) _ _ hg⟩

theorem eqc_self (W : World) (a b : Int) : (Op.equalIn 10000 25 (.agg #[.int .i64 a, .int .i64 b]) (.agg #[.int .i64 a, .int .i64 b])).run Try.prog W = .ok true W := by
  have hk : OfKinds [some .i64, some .i64] [.int .i64 a, .int .i64 b] := ⟨⟨_, rfl⟩, ⟨_, rfl⟩, trivial⟩
  have := eq_flat_agg (P := Try.prog) W 2 25 [some .i64, some .i64] (by kernel_rfl) (by omega) (fun _ => rfl) _ _ hk hk
  rw [(cellsEq_iff hk hk).2 rfl] at this
  exact this
set_option maxHeartbeats 1000000 in
theorem wakes_any (w : World) : Calls Try.prog 8 #[] w fun e w' => e = .returned (.bool true) ∧ Grows w w' := by
  have c1 : ∀ W, Calls Try.prog 7 #[.agg #[.int .i64 1, .int .i64 2, .int .i64 1, .int .i64 2, .int .i64 1, .int .i64 2, .int .i64 1, .int .i64 2], .int .i64 3] W fun e w' => e = .returned (.tuple #[.agg #[.int .i64 6, .int .i64 3], .bool true]) ∧ Grows W w' := fun W => by
    have := next_go 1 2 1 2 1 2 1 2 [1, 2, 1, 2, 1, 2, 1, 2] rfl 3 (by omega) (by omega) (by decide) W
    rwa [show nextR [1, 2, 1, 2, 1, 2, 1, 2] (3 : Nat) = some (6, 3) by decide] at this
  have C1 := Lib.hid c1
  have he := eqc_self
  clear c1
  go_enter Try.func8, Try.ntmps8
  go_wp2_with fail
  refine (C1.out _).mono ?_
  rintro e w1 ⟨rfl, hb1⟩
  go_wp2_with fail
  go_ret
  exact ⟨rfl, hb1.alloc _⟩
end Go.Proofs.Ytmoploenbppdbaa
