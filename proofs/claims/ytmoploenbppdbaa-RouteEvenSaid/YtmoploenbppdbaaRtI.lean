/-
  RouteEven's walk.
-/
import Derived.Test.YtmoploenbppdbaaRtP
namespace Go.Proofs.Ytmoploenbppdbaa
open Go.RowKit

theorem bits_zero : ∀ (l : List Bool), bitsOf l = 0 → l.count true = 0
  | [], _ => rfl
  | b :: bs, h => by
    rw [bitsOf] at h
    have hb : b.toNat = 0 := by omega
    have := bits_zero bs (by omega)
    cases b
    · simpa using this
    · simp at hb
theorem own_count (M : List Int) (k : Nat) : (M.map fun s => s == (k : Int)).count true = cnt M k := by
  unfold cnt
  rw [List.count_eq_countP, List.countP_map, List.count_eq_countP]
  apply List.countP_congr
  intro x _
  simp

set_option maxRecDepth 100000 in
set_option maxHeartbeats 4000000 in
theorem even_bad (o0 o1 o2 o3 o4 o5 o6 o7 n : Int) (hbad : (okR [o0, o1, o2, o3, o4, o5, o6, o7] && isS n) = false) (w : World) :
    Calls Try.prog 3 #[.agg #[.int .i64 o0, .int .i64 o1, .int .i64 o2, .int .i64 o3, .int .i64 o4, .int .i64 o5, .int .i64 o6, .int .i64 o7], .int .i64 n] w fun e w' => e = .returned (.bool true) ∧ Grows w w' := by
  have HMay := Lib.hid (fun W => may_any o0 o1 o2 o3 o4 o5 o6 o7 _ rfl W)
  have HNx := Lib.hid (fun W => next_bad o0 o1 o2 o3 o4 o5 o6 o7 _ rfl n hbad W)
  have G0 := (Grows.refl w).alloc (.cells #[.int .i64 o0, .int .i64 o1, .int .i64 o2, .int .i64 o3, .int .i64 o4, .int .i64 o5, .int .i64 o6, .int .i64 o7] 22)
  have M0 := Lib.hid (At.new w 22 #[.int .i64 o0, .int .i64 o1, .int .i64 o2, .int .i64 o3, .int .i64 o4, .int .i64 o5, .int .i64 o6, .int .i64 o7])
  have hz := zch
  cases hR : okR [o0, o1, o2, o3, o4, o5, o6, o7] with
  | false =>
    rw [hR] at HMay
    clear hbad hR
    go_enter Try.func3, Try.ntmps3
    go_wp2_with fail
    refine (HMay.out _).mono ?_
    rintro e w1 ⟨rfl, hb1⟩
    have cm := (M0.out.grows hb1).cell
    go_wp2_with fail
    refine (HNx.out _).mono ?_
    rintro e w2 ⟨rfl, hb2⟩
    clear cm
    go_wp2_with fail
    refine (wakes_any _).mono ?_
    rintro e w3 ⟨rfl, hb3⟩
    go_wp2_with fail
    go_ret
    exact ⟨rfl, (((G0.trans hb1).trans hb2).alloc _).trans hb3⟩
  | true =>
    rw [hR] at HMay
    have hS : isS n = false := by simpa [hR] using hbad
    clear hbad hR
    by_cases h1 : n < 1
    · have h1' : decide (n < 1) = true := by simpa using h1
      go_enter Try.func3, Try.ntmps3
      go_wp2_with fail
      refine (HMay.out _).mono ?_
      rintro e w1 ⟨rfl, hb1⟩
      have cm := (M0.out.grows hb1).cell
      go_wp2_with fail
      refine (HNx.out _).mono ?_
      rintro e w2 ⟨rfl, hb2⟩
      clear cm
      go_wp2_with fail
      refine (wakes_any _).mono ?_
      rintro e w3 ⟨rfl, hb3⟩
      go_wp2_with fail
      go_ret
      exact ⟨rfl, (((G0.trans hb1).trans hb2).alloc _).trans hb3⟩
    · have h1' : decide (n < 1) = false := by simpa using h1
      have h2 : 4 < n := by
        have h3 : decide (1 ≤ n) = true := by simp; omega
        simp only [isS, h3, Bool.true_and, decide_eq_false_iff_not] at hS
        omega
      have h2' : decide (4 < n) = true := by simpa using h2
      go_enter Try.func3, Try.ntmps3
      go_wp2_with fail
      refine (HMay.out _).mono ?_
      rintro e w1 ⟨rfl, hb1⟩
      have cm := (M0.out.grows hb1).cell
      go_wp2_with fail
      refine (HNx.out _).mono ?_
      rintro e w2 ⟨rfl, hb2⟩
      clear cm
      go_wp2_with fail
      refine (wakes_any _).mono ?_
      rintro e w3 ⟨rfl, hb3⟩
      go_wp2_with fail
      go_ret
      exact ⟨rfl, (((G0.trans hb1).trans hb2).alloc _).trans hb3⟩

/-- What the first loop holds: a map at its place, so many moves. -/
def EvenI (w w1 : World) (n it : Nat) (wr : World) : Prop :=
  ∃ p0 p1 p2 p3 p4 p5 p6 p7 : Int, At wr w.heap.size 22 #[.int .i64 p0, .int .i64 p1, .int .i64 p2, .int .i64 p3, .int .i64 p4, .int .i64 p5, .int .i64 p6, .int .i64 p7] ∧ okR [p0, p1, p2, p3, p4, p5, p6, p7] = true ∧ termC n (8 - it) (vec [p0, p1, p2, p3, p4, p5, p6, p7]) = true ∧ Grows w wr ∧ w1.heap.size ≤ wr.heap.size

set_option maxRecDepth 100000 in
set_option maxHeartbeats 8000000 in
theorem even_go (o0 o1 o2 o3 o4 o5 o6 o7 : Int) (n : Nat) (hR : okR [o0, o1, o2, o3, o4, o5, o6, o7] = true) (h1 : 1 ≤ n) (h4 : n ≤ 4) (w : World) :
    Calls Try.prog 3 #[.agg #[.int .i64 o0, .int .i64 o1, .int .i64 o2, .int .i64 o3, .int .i64 o4, .int .i64 o5, .int .i64 o6, .int .i64 o7], .int .i64 (n : Int)] w fun e w' => e = .returned (.bool true) ∧ Grows w w' := by
  have HMay := Lib.hid (fun W => may_any o0 o1 o2 o3 o4 o5 o6 o7 _ rfl W)
  rw [hR] at HMay
  have G0 := (Grows.refl w).alloc (.cells #[.int .i64 o0, .int .i64 o1, .int .i64 o2, .int .i64 o3, .int .i64 o4, .int .i64 o5, .int .i64 o6, .int .i64 o7] 22)
  have M0 := Lib.hid (At.new w 22 #[.int .i64 o0, .int .i64 o1, .int .i64 o2, .int .i64 o3, .int .i64 o4, .int .i64 o5, .int .i64 o6, .int .i64 o7])
  have hz := zch
  have hz2 := z8
  have hn1 : ¬ ((n : Int) < 1) := by omega
  have hn4 : ¬ ((4 : Int) < (n : Int)) := by omega
  have HT := Lib.hid (term_start (M := [o0, o1, o2, o3, o4, o5, o6, o7]) rfl hR h1 h4)
  have HR := Lib.hid hR
  clear hR
  go_enter Try.func3, Try.ntmps3
  go_wp2_with fail
  refine (HMay.out _).mono ?_
  rintro e w1 ⟨rfl, hb1⟩
  have I1 : Hid (EvenI w w1 n 0 w1) := ⟨o0, o1, o2, o3, o4, o5, o6, o7, M0.out.grows hb1, HR.out, HT.out, G0.trans hb1, Nat.le_refl _⟩
  clear hb1 G0
  go_wp2_with fail
  go_loopg [7] 9 (fun gh i wr => ∃ (it : Nat), it + gh = 9 ∧ i = .int .i64 (it : Int) ∧ EvenI w w1 n it wr)
  case atStart => exact ⟨0, by omega, rfl, I1.out⟩
  case round =>
    obtain ⟨it, hit, rfl, p0, p1, p2, p3, p4, p5, p6, p7, hat, hok, hterm, hg, hsz⟩ := hrel
    have HA := Lib.hid hat
    have HNx := fun W => next_go p0 p1 p2 p3 p4 p5 p6 p7 _ rfl n h1 h4 hok W
    have HMv := fun s t h W => moved_ok p0 p1 p2 p3 p4 p5 p6 p7 s t W h
    have hstep := fun j t h => next_step (M := [p0, p1, p2, p3, p4, p5, p6, p7]) (j := j) (t := t) rfl hok h1 h4 h
    have hlit := fun k hk => lit8 p0 p1 p2 p3 p4 p5 p6 p7 k hk
    have cm := hat.cell
    have fm := hat.frozen
    cases hnx : nextR [p0, p1, p2, p3, p4, p5, p6, p7] n with
    | none =>
      rw [hnx] at HNx
      have HNx' := Lib.hid HNx
      have hev := even_of (M := [p0, p1, p2, p3, p4, p5, p6, p7]) rfl hok h1 h4 hnx
      have HOw := Lib.hid (fun (k : Nat) W => owned_any p0 p1 p2 p3 p4 p5 p6 p7 _ rfl (k : Int) W)
      have hol := fun x => own_lt [p0, p1, p2, p3, p4, p5, p6, p7] rfl x
      have hoc := fun k => own_count [p0, p1, p2, p3, p4, p5, p6, p7] k
      have hcl := fun i => cnt_le [p0, p1, p2, p3, p4, p5, p6, p7] rfl i
      generalize [p0, p1, p2, p3, p4, p5, p6, p7] = M at *
      have HEV := Lib.hid hev
      have HOL := Lib.hid hol
      have HOC := Lib.hid hoc
      have HCL := Lib.hid hcl
      clear hterm hnx HMv HNx hstep hlit hat hok hev hol hoc hcl fm
      unfold nextV at HNx'
      obtain ⟨wo, hwo⟩ : ∃ wo : World, wo = wr := ⟨_, rfl⟩
      subst hwo
      obtain ⟨go, hgo⟩ : ∃ go : Nat, go = gk := ⟨_, rfl⟩
      subst hgo
      go_wp2_with fail
      refine (HNx'.out _).mono ?_
      rintro e w2 ⟨rfl, hb2⟩
      clear cm
      have A2 := Lib.hid ((HA.out.grows hb2).alloc (.cells #[.int .i64 0, .int .i64 0] 25))
      have G2 := (hg.trans hb2).alloc (.cells #[.int .i64 0, .int .i64 0] 25)
      go_wp2_with fail
      go_loopg [12, 13, 14] 4 (fun gh a b i wr => ∃ (k : Nat), k + gh = 5 ∧ 1 ≤ k ∧ i = .int .i64 (k : Int) ∧ a = .int .i64 ((mostK (cnt M) n (k - 1) : Nat) : Int) ∧ b = .int .i64 ((leastK (cnt M) n (k - 1) : Nat) : Int) ∧ Grows (w2.alloc (.cells #[.int .i64 0, .int .i64 0] 25)) wr)
      case atStart => exact ⟨1, by omega, by omega, rfl, rfl, rfl, Grows.refl _⟩
      case round =>
        obtain ⟨k, hk, hk1, rfl, rfl, rfl, hg2⟩ := hrel
        by_cases hlt : k ≤ 4
        · have hlt' : (k : Int) ≤ 4 := by omega
          have cm := (A2.out.grows hg2).cell
          have HOwk := HOw.out k
          have hoc := HOC.out k
          have hol := HOL.out k
          have hcl := HCL.out k
          have hm : mostK (cnt M) n k = if k ≤ n then max (mostK (cnt M) n (k - 1)) (cnt M k) else mostK (cnt M) n (k - 1) := by
            obtain ⟨q, rfl⟩ : ∃ q, k = q + 1 := ⟨k - 1, by omega⟩
            rfl
          have hl : leastK (cnt M) n k = if k ≤ n then min (leastK (cnt M) n (k - 1)) (cnt M k) else leastK (cnt M) n (k - 1) := by
            obtain ⟨q, rfl⟩ : ∃ q, k = q + 1 := ⟨k - 1, by omega⟩
            rfl
          have hz0 := HEV.out.2 k hk1 hlt
          have HMK := Lib.hid hm
          have HLK := Lib.hid hl
          clear hm hl
          unfold ownB at HOwk hol
          generalize (M.map fun s => s == (k : Int)) = L0 at *
          generalize hck : cnt M k = ck at *
          have HOwk := Lib.hid HOwk
          have HOCk := Lib.hid hoc
          clear hck hoc
          generalize mostK (cnt M) n (k - 1) = mo at *
          generalize leastK (cnt M) n (k - 1) = le at *
          obtain ⟨wp, hwp⟩ : ∃ wp : World, wp = wr := ⟨_, rfl⟩
          obtain ⟨gp, hgp⟩ : ∃ gp : Nat, gp = gk := ⟨_, rfl⟩
          go_wp2_with fail
          refine (HOwk.out _).mono ?_
          rintro e w3 ⟨rfl, hb3⟩
          clear cm
          go_wp2_with fail
          subst hwp
          subst hgp
          go_loopg [15, 16] L0.length (fun gh a b wr => ∃ (l : List Bool) (m : Nat), l.length = gh ∧ a = .int .i64 ((bitsOf l : Nat) : Int) ∧ b = .int .i64 (m : Int) ∧ m + l.count true = ck ∧ bitsOf l ≤ 256 ∧ wr = w3)
          case atStart => exact ⟨L0, 0, rfl, rfl, rfl, by rw [HOCk.out]; omega, by omega, rfl⟩
          case round =>
            obtain ⟨l, m, hll, rfl, rfl, hmc, hbl, rfl⟩ := hrel
            by_cases hpos : 0 < bitsOf l
            · have hpos' : (0 : Int) < ((bitsOf l : Nat) : Int) := by omega
              cases l with
              | nil => simp [bitsOf] at hpos
              | cons b bs =>
                have hb1 : b.toNat ≤ 1 := by cases b <;> simp
                have hbv : bitsOf (b :: bs) = b.toNat + 2 * bitsOf bs := rfl
                have han := and_one (bitsOf (b :: bs)) (by omega)
                have hcnt : (b :: bs).count true = bs.count true + b.toNat := by cases b <;> simp
                have hmod : bitsOf (b :: bs) % 2 = b.toNat := by omega
                have hdiv : bitsOf (b :: bs) / 2 = bitsOf bs := by omega
                rw [hmod] at han
                rw [hcnt] at hmc
                have hm8 : m ≤ 8 := by omega
                simp only [List.length_cons] at hll
                generalize bitsOf (b :: bs) = B at *
                have HDIV := Lib.hid hdiv
                have HLL := Lib.hid hll
                generalize hbt : b.toNat = bt at *
                clear hdiv hmod hcnt hbv hbt hpos hll
                go_wp2_with fail
                go_roundg (gk - 1)
                case measure => have := HLL.out; omega
                case rel => exact ⟨bs, m + bt, by have := HLL.out; omega, by rw [← HDIV.out]; go_num, by go_num, by omega, by have := HDIV.out; omega, rfl⟩
            · have hb0 : bitsOf l = 0 := by omega
              have := bits_zero l hb0
              rw [hb0]
              rw [this] at hmc
              have hmc' : m = ck := by omega
              clear hmc hll this hb0 hbl hpos
              obtain rfl := hmc'
              by_cases hkn : k ≤ n
              · rw [if_pos hkn] at HMK HLK
                have hkn' : decide (n < k) = false := by simp; omega
                have hkn'' : decide (k ≤ n) = true := by simp; omega
                clear hz0
                go_wp2_with fail
                all_goals
                  go_roundg (gp - 1)
                  case measure => omega
                  case rel => exact ⟨k + 1, by omega, by omega, by go_num, by rw [show k + 1 - 1 = k by omega, HMK.out]; exact congrArg (fun z : Nat => Value.int .i64 (z : Int)) (by omega), by rw [show k + 1 - 1 = k by omega, HLK.out]; exact congrArg (fun z : Nat => Value.int .i64 (z : Int)) (by omega), hg2.trans hb3⟩
              · rw [if_neg hkn] at HMK HLK
                have hkn' : decide (n < k) = true := by simp; omega
                have hkn'' : decide (k ≤ n) = false := by simp; omega
                have hm0 : m = 0 := hz0 (by omega)
                subst hm0
                clear hz0
                go_wp2_with fail
                go_roundg (gp - 1)
                case measure => omega
                case rel => exact ⟨k + 1, by omega, by omega, by go_num, by rw [show k + 1 - 1 = k by omega, HMK.out], by rw [show k + 1 - 1 = k by omega, HLK.out], hg2.trans hb3⟩
        · obtain rfl : k = 5 := by omega
          have hev := HEV.out.1
          simp only [show 5 - 1 = 4 from rfl]
          have hmb : mostK (cnt M) n 4 ≤ 8 ∧ leastK (cnt M) n 4 ≤ 8 := by
            have hc := HCL.out
            have key : ∀ k, mostK (cnt M) n k ≤ 8 ∧ leastK (cnt M) n k ≤ 8 := by
              intro k
              induction k with
              | zero => exact ⟨Nat.zero_le _, Nat.le_refl _⟩
              | succ k ih =>
                have := hc (k + 1)
                rw [mostK, leastK]
                split <;> omega
            exact key 4
          generalize mostK (cnt M) n 4 = mo at *
          generalize leastK (cnt M) n 4 = le at *
          have hle : (mo : Int) - (le : Int) ≤ 1 := by omega
          go_wp2_with fail
          refine (wakes_any _).mono ?_
          rintro e w4 ⟨rfl, hb4⟩
          go_wp2_with fail
          go_ret
          exact ⟨rfl, (G2.trans hg2).trans hb4⟩
    | some c =>
      obtain ⟨j, t⟩ := c
      obtain ⟨hj, ht1, htn, hne, hst⟩ := hstep j t hnx
      obtain ⟨k', hk', hterm'⟩ := term_step hterm hst
      rw [hnx] at HNx
      have hmv : movedOk [p0, p1, p2, p3, p4, p5, p6, p7] (j : Int) (t : Int) = true := by
        have : isS (t : Int) = true := by simp [isS]; omega
        simp only [movedOk, hok, this, Bool.and_true, Bool.true_and, Bool.and_eq_true, decide_eq_true_eq]
        omega
      have HMv' := Lib.hid (HMv (j : Int) (t : Int) hmv)
      have HNx' := Lib.hid HNx
      have hcj := hat.cell j
      rw [hlit j (by omega)] at hcj
      have hokS := okR_set (i := j) hok (show isS (t : Int) = true by simp [isS]; omega)
      generalize hMp : [p0, p1, p2, p3, p4, p5, p6, p7] = M at *
      have HMp := Lib.hid hMp
      have HT' := Lib.hid hterm'
      have HOS := Lib.hid hokS
      generalize M.getD j 0 = mj at *
      have hne' : (mj == (t : Int)) = false := by simpa using hne
      clear hterm hst hterm' hnx hokS hMp HMv HNx hstep hlit hmv hat hok hne
      have hit8 : ¬ ((8 : Int) ≤ (it : Int)) := by omega
      have hit8' : decide (8 ≤ it) = false := by simp; omega
      have hjn : ¬ ((j : Int) < 0) := by omega
      have hj8 : ¬ ((8 : Int) ≤ (j : Int)) := by omega
      have hj8' : decide (8 ≤ j) = false := by simp; omega
      have ht1' : decide ((t : Int) < 1) = false := by simp; omega
      have ht1'' : decide (t < 1) = false := by simp; omega
      have htn' : decide (n < t) = false := by simp; omega
      have hj80 : (j : Int) < 8 := by omega
      have hj00 : (0 : Int) ≤ (j : Int) := by omega
      unfold nextV at HNx'
      go_wp2_with fail
      refine (HNx'.out _).mono ?_
      rintro e w2 ⟨rfl, hb2⟩
      have hcj2 := ((hb2.alloc (.cells #[.int .i64 (j : Int), .int .i64 (t : Int)] 25)).cell w.heap.size j (by have := hg.size; have := HA.out.lt; omega)).trans hcj
      have A2 := Lib.hid ((HA.out.grows hb2).alloc (.cells #[.int .i64 (j : Int), .int .i64 (t : Int)] 25))
      clear cm fm hcj
      go_wp2_with fail
      go_quiet (fail)
      have A3 := Lib.hid (A2.out.grows ((Grows.refl _).drewN nq))
      have cm := A2.out.cell
      clear hcj2
      go_wp2_with fail
      refine (HMv'.out _).mono ?_
      rintro e w3 ⟨q0, q1, q2, q3, q4, q5, q6, q7, rfl, hN, hb3⟩
      have HN := Lib.hid hN
      clear hN cm
      have G3 := (((hg.trans hb2).alloc (.cells #[.int .i64 (j : Int), .int .i64 (t : Int)] 25)).drewN nq).trans hb3
      have A4 := Lib.hid ((A3.out.grows hb3).alloc (.cells #[.int .i64 q0, .int .i64 q1, .int .i64 q2, .int .i64 q3, .int .i64 q4, .int .i64 q5, .int .i64 q6, .int .i64 q7] 22))
      have hs3 : w.heap.size < w3.heap.size := (A3.out.grows hb3).lt
      have hs1 : w1.heap.size ≤ w3.heap.size := by
        have h2 := hb2.size
        have h3 := hb3.size
        simp at h3
        omega
      go_wp2_with (with_reducible refine wpList_store_mid (op := ⟨none, .store 22 (.tmp 2) (.tmp 87), _, _, _, none⟩) rfl 22 (.tmp 2) (.tmp 87) rfl (w.heap.size) (0) #[.int .i64 q0, .int .i64 q1, .int .i64 q2, .int .i64 q3, .int .i64 q4, .int .i64 q5, .int .i64 q6, .int .i64 q7] ?s1a ?s1b ?s1c ?s1d ?s1e ?_)
      case s1a => rfl
      case s1b => rfl
      case s1c => exact A4.out.there 0 8 (by simp)
      case s1d => kernel_rfl
      case s1e => exact one8 _ _ _ _ _ _ _ _
      go_roundg (gk - 1)
      case measure => omega
      case rel => exact ⟨it + 1, by omega, by go_num, q0, q1, q2, q3, q4, q5, q6, q7, At.all (cs := ints [p0, p1, p2, p3, p4, p5, p6, p7]) (vs := ints [q0, q1, q2, q3, q4, q5, q6, q7]) A4.out rfl, by rw [HN.out]; exact HOS.out, by rw [HN.out, show 8 - (it + 1) = k' by omega]; exact HT'.out, Grows.setCells (Nat.le_refl _) _ _ (G3.alloc _), by rw [size_setCells]; simp; omega⟩

theorem even_walk (o0 o1 o2 o3 o4 o5 o6 o7 n : Int) (w : World) : Calls Try.prog 3 #[.agg #[.int .i64 o0, .int .i64 o1, .int .i64 o2, .int .i64 o3, .int .i64 o4, .int .i64 o5, .int .i64 o6, .int .i64 o7], .int .i64 n] w fun e w' => e = .returned (.bool true) ∧ Grows w w' := by
  cases h : (okR [o0, o1, o2, o3, o4, o5, o6, o7] && isS n) with
  | false => exact even_bad o0 o1 o2 o3 o4 o5 o6 o7 n h w
  | true =>
    rw [Bool.and_eq_true] at h
    have hb := isS_bd h.2
    obtain ⟨m, rfl⟩ : ∃ m : Nat, n = (m : Int) := ⟨n.toNat, by omega⟩
    exact even_go o0 o1 o2 o3 o4 o5 o6 o7 m h.1 (by omega) (by omega) w
end Go.Proofs.Ytmoploenbppdbaa
