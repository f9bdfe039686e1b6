/-
  The law's answered; plain facts for OrderTime.
-/
import Derived.Test.YtcailhkaeledbaaOrN
import Derived.Test.YtcailhkaeledbaaOrK
import Derived.Test.YtcailhkaeledbaaOrQ
namespace Go.Proofs.Ytcailhkaeledbaa
open Go.RowKit Go.Maps

def ansB (y : Nm) (l : List Sn) : Bool := match l.findIdx? (stB 4 y) with | some i => decide (fstI 3 y l < (i : Int)) | none => false
theorem ans_some {y : Nm} {l : List Sn} {k : Nat} {x : Sn} (hx : l[k]? = some x) (h : stB 4 y x = true) (hno : ∀ (j : Nat) (z : Sn), j < k → l[j]? = some z → stB 4 y z = false) : ansB y l = decide (fstI 3 y l < (k : Int)) := by
  obtain ⟨hk, rfl⟩ := List.getElem?_eq_some_iff.1 hx
  unfold ansB
  rw [List.findIdx?_eq_some_iff_getElem.2 ⟨hk, h, fun j hj => by simp [hno j _ hj (List.getElem?_eq_getElem (by omega))]⟩]
theorem ans_none {y : Nm} {l : List Sn} (hno : ∀ (j : Nat) (z : Sn), l[j]? = some z → stB 4 y z = false) : ansB y l = false := by
  unfold ansB
  rw [List.findIdx?_eq_none_iff.2 fun x hx => by
    obtain ⟨i, hi⟩ := List.getElem?_of_mem hx
    exact hno i x hi]
set_option maxHeartbeats 2000000 in
theorem answered_any (L : List Sn) (n : Nat) (hn : L.length = n) (hL : n ≤ 1000000) (a : Option Addr) (cap : Nat) (y : Nm) (w : World) (hr : Rd w a (rowsOf Sn.cs L)) :
    Calls Try.prog 12 #[.slice a n cap, y.v] w fun e w' => e = .returned (.bool (ansB y L)) ∧ Grows w w' := by
  have HR := Lib.hid hr
  have HN := Lib.hid hn
  have HCM := Lib.hid (fun W (hg : Grows w W) => commits_any L n hn hL a cap y W (hr.grows hg))
  clear hr hn
  have HA := Lib.hid (At.new w 31 #[.int .i64 y.s, .int .i64 y.i, .int .i64 y.t])
  have he := eqn_any
  unfold Nm.v at HCM ⊢
  go_enter Try.func12, Try.ntmps12
  go_wp2_with fail
  go_loopg [5, 8] n (fun gh v5 v8 wr => ∃ k : Nat, gh + k = n ∧ v8 = .int .i64 (k : Int) ∧ (∀ (j : Nat) (z : Sn), j < k → L[j]? = some z → stB 4 y z = false) ∧ At wr w.heap.size 31 #[.int .i64 y.s, .int .i64 y.i, .int .i64 y.t] ∧ Grows w wr)
  case atStart => exact ⟨0, by omega, rfl, fun j z hj => by omega, HA.out, (Grows.refl w).alloc _⟩
  case round =>
    obtain ⟨k, hgk, rfl, hno, hat, hg⟩ := hrel
    have HNO := Lib.hid hno
    have HAT := Lib.hid hat
    have HG := Lib.hid hg
    clear hno hat hg
    by_cases hlt : k < n
    · have hkl : k < L.length := by rw [HN.out]; exact hlt
      obtain ⟨g, off, rfl, hgw, hc⟩ := cells14 (HR.out.grows HG.out) hkl
      obtain ⟨c0, c1, c2, c3, _⟩ := cells14_at hc
      have HX := Lib.hid (List.getElem?_eq_getElem hkl)
      generalize L[k] = x at *
      clear hc hkl
      have cA := HAT.out.cell
      have hi1 : (k : Int) < (n : Int) := by omega
      have hi0 : (0 : Int) ≤ (k : Int) := by omega
      have hi2 : ((k : Int)).toNat = k := by omega
      clear hlt
      by_cases hk : x.k = 4
      · have bk : (x.k == (4 : Int)) = true := by simp [hk]
        by_cases hxy : x.n = y
        · have hd : decide (x.n = y) = true := by simp [hxy]
          have HB : Hid (stB 4 y x = true) := Lib.hid (by unfold stB; rw [bk, hd]; rfl)
          have HE : Hid (ansB y L = decide (fstI 3 y L < (k : Int))) := Lib.hid (ans_some HX.out HB.out HNO.out)
          clear hk hxy
          go_wp2_with fail
          go_quiet (fail)
          have cA2 := (HAT.out.grows ((Grows.refl _).drewN nq)).cell
          go_wp2_with fail
          refine (HCM.out _ (HG.out.drewN _)).mono ?_
          rintro e w2 ⟨rfl, hg2⟩
          have HG2 := Lib.hid ((HG.out.drewN nq).trans hg2)
          clear hg2
          go_wp2_with fail
          go_ret
          exact ⟨by rw [HE.out]; simp, HG2.out⟩
        · have hd : decide (x.n = y) = false := by simp [hxy]
          have HB : Hid (stB 4 y x = false) := Lib.hid (by unfold stB; rw [hd, Bool.and_false])
          clear hk hxy
          go_wp2_with fail
          go_quiet (fail)
          have HAT2 := Lib.hid (HAT.out.grows ((Grows.refl _).drewN nq))
          have HG2 := Lib.hid (HG.out.drewN nq)
          go_wp2_with fail
          go_roundg (gk - 1)
          case measure => omega
          case rel =>
            refine ⟨k + 1, by omega, by go_num, fun j z hj hz => ?_, HAT2.out, HG2.out⟩
            rcases Nat.lt_or_ge j k with h | h
            · exact HNO.out j z h hz
            · obtain rfl : j = k := by omega
              rw [HX.out] at hz
              injection hz with hz
              rw [← hz]
              exact HB.out
      · have bk : (x.k == (4 : Int)) = false := by simp [hk]
        have HB : Hid (stB 4 y x = false) := Lib.hid (by unfold stB; rw [bk, Bool.false_and])
        clear hk
        go_wp2_with fail
        go_quiet (fail)
        have HAT2 := Lib.hid (HAT.out.grows ((Grows.refl _).drewN nq))
        have HG2 := Lib.hid (HG.out.drewN nq)
        go_wp2_with fail
        go_roundg (gk - 1)
        case measure => omega
        case rel =>
          refine ⟨k + 1, by omega, by go_num, fun j z hj hz => ?_, HAT2.out, HG2.out⟩
          rcases Nat.lt_or_ge j k with h | h
          · exact HNO.out j z h hz
          · obtain rfl : j = k := by omega
            rw [HX.out] at hz
            injection hz with hz
            rw [← hz]
            exact HB.out
    · have hge : ¬ (k : Int) < (n : Int) := by omega
      have HE : Hid (ansB y L = false) := Lib.hid (ans_none fun j z hz => HNO.out j z (by have := (List.getElem?_eq_some_iff.1 hz).1; have := HN.out; omega) hz)
      clear hlt
      go_wp2_with fail
      go_ret
      exact ⟨by rw [HE.out]; rfl, HG.out⟩

-- plain
theorem nxt_b (z : Int) (x : Sn) (t : Tk) : (nxt z x t).b = (t.b || x.k == 0) := by
  unfold nxt
  by_cases h0 : x.k = 0
  · simp [h0]
  · by_cases h3 : x.k = 3
    · simp [h3]
    · by_cases h4 : x.k = 4
      · simp [h4]
      · by_cases h5 : x.k = 5 <;> simp [h0, h3, h4, h5]
theorem beg_at (l : List Sn) (n : Nm) : (tk l n).b = true → ∃ (i : Nat) (x : Sn), l[i]? = some x ∧ stB 0 n x = true := by
  refine snoc_ind (P := fun l => (tk l n).b = true → ∃ (i : Nat) (x : Sn), l[i]? = some x ∧ stB 0 n x = true) ?_ ?_ l
  · intro h; simp [tk, tkA, Tk.zero] at h
  · intro l x ih h
    rw [tk_snoc] at h
    by_cases e : x.n = n
    · rw [if_pos e, nxt_b, Bool.or_eq_true] at h
      rcases h with h | h
      · obtain ⟨i, y, h1, h2⟩ := ih h
        exact ⟨i, y, by rw [List.getElem?_append_left (List.getElem?_eq_some_iff.1 h1).1]; exact h1, h2⟩
      · exact ⟨l.length, x, by simp, by unfold stB; rw [h]; simp [e]⟩
    · rw [if_neg e] at h
      obtain ⟨i, y, h1, h2⟩ := ih h
      exact ⟨i, y, by rw [List.getElem?_append_left (List.getElem?_eq_some_iff.1 h1).1]; exact h1, h2⟩
theorem may_okAt {l : List Sn} (h : mayB l = true) {i : Nat} {x : Sn} (hx : l[i]? = some x) : namedB x.n = true ∧ okS x (tk (l.take i) x.n) = true := by
  unfold mayB at h
  rw [List.all_eq_true] at h
  have := h i (List.mem_range.2 (List.getElem?_eq_some_iff.1 hx).1)
  unfold okAt at this
  rw [hx] at this
  simpa using this
theorem fst3 {l : List Sn} (h : mayB l = true) {a : Nm} (ha : a ∈ decL l) : fstI 3 a l = (tk l a).p := by
  have hc := com_at l h
  obtain ⟨i, x, h1, h2, h3, h4⟩ := hc.got a (hc.dec a ((mem_decL hc a).1 ha))
  rw [h4]
  refine fstI_some h1 (by unfold stB; simp [h2, h3]) fun j z hj hz => ?_
  by_cases hb : stB 3 a z = true
  · unfold stB at hb
    simp at hb
    have := (hc.put j z hz hb.1).2
    rw [hb.2, h4] at this
    omega
  · simpa using hb
theorem time_core {l : List Sn} (h : mayB l = true) {a b : Nm} (ha : a ∈ decL l) (hb : b ∈ decL l) (hab : (tk l b).p < (tk l a).p) : aheadL a b l = true → ansB a l = false := by
  intro h1
  have hc := com_at l h
  obtain ⟨c, x, c1, c2, c3, c4⟩ := hc.got b (hc.dec b ((mem_decL hc b).1 hb))
  -- b's begin stands ahead of its commit
  have hok := (may_okAt h c1).2
  have hbeg := (ok3 hok c2).2
  rw [c3] at hbeg
  obtain ⟨i, y, i1, i2⟩ := beg_at _ _ hbeg
  have hic : i < c := by
    have := (List.getElem?_eq_some_iff.1 i1).1
    rw [List.length_take] at this
    omega
  rw [List.getElem?_take_of_lt hic] at i1
  unfold aheadL at h1
  cases hf : l.findIdx? (stB 0 b) with
  | none => rw [hf] at h1; cases h1
  | some i0 =>
    rw [hf] at h1
    obtain ⟨f1, f2, f3⟩ := List.findIdx?_eq_some_iff_getElem.1 hf
    have hi0 : i0 ≤ i := by
      rcases Nat.lt_or_ge i i0 with hlt | hge
      · have := f3 i hlt
        rw [List.getElem?_eq_getElem (by omega)] at i1
        injection i1 with i1
        rw [i1, i2] at this
        simp at this
      · exact hge
    obtain ⟨z, hz, hz4⟩ := List.any_eq_true.1 h1
    obtain ⟨j, hj⟩ := List.getElem?_of_mem hz
    have hji : j < i0 := by
      have := (List.getElem?_eq_some_iff.1 hj).1
      rw [List.length_take] at this
      omega
    rw [List.getElem?_take_of_lt hji] at hj
    unfold ansB
    cases hg : l.findIdx? (stB 4 a) with
    | none => rfl
    | some j' =>
      obtain ⟨g1, g2, g3⟩ := List.findIdx?_eq_some_iff_getElem.1 hg
      have hj' : j' ≤ j := by
        rcases Nat.lt_or_ge j j' with hlt | hge
        · have := g3 j hlt
          rw [List.getElem?_eq_getElem (by omega)] at hj
          injection hj with hj
          rw [hj, hz4] at this
          simp at this
        · exact hge
      rw [fst3 h ha]
      simp only [decide_eq_false_iff_not]
      omega
def dn5 (l : List Sn) : List Nm := (l.filter fun x => x.k == 5).map Sn.n
theorem dn5_at (l : List Sn) : mayB l = true → (dn5 l).Nodup ∧ ∀ n, n ∈ dn5 l ↔ (tk l n).d = true := by
  refine snoc_ind (P := fun l => mayB l = true → (dn5 l).Nodup ∧ ∀ n, n ∈ dn5 l ↔ (tk l n).d = true) ?_ ?_ l
  · intro _
    exact ⟨List.nodup_nil, fun n => by simp [dn5, tk, tkA, Tk.zero]⟩
  · intro l x ih h
    rw [mayB_snoc, Bool.and_eq_true, Bool.and_eq_true] at h
    obtain ⟨h1, h2⟩ := ih h.1
    have e : dn5 (l ++ [x]) = dn5 l ++ if x.k = 5 then [x.n] else [] := by
      unfold dn5
      rw [List.filter_append, List.map_append, List.filter_cons]
      by_cases h5 : x.k = 5 <;> simp [h5]
    rw [e]
    constructor
    · by_cases h5 : x.k = 5
      · rw [if_pos h5, List.nodup_append]
        refine ⟨h1, by simp, fun a ha b hb hab => ?_⟩
        rw [List.mem_singleton.1 hb] at hab
        subst hab
        have := (ok5 h.2.2 h5).2
        rw [(h2 _).1 ha] at this
        cases this
      · rw [if_neg h5, List.append_nil]; exact h1
    · intro n
      rw [List.mem_append, h2, tk_snoc]
      by_cases en : x.n = n
      · rw [if_pos en, nxt_d, en]
        by_cases h5 : x.k = 5 <;> simp [h5]
      · rw [if_neg en]
        by_cases h5 : x.k = 5
        · simp [h5, Ne.symm en]
        · simp [h5]
theorem decL_nodup {l : List Sn} (h : Com l) : (decL l).Nodup := (decL_rises h).imp fun {a b} hab e => by subst e; omega
theorem done_len {l : List Sn} (h : mayB l = true) : (l.filter fun x => x.k == 5).length = (decL l).length := by
  obtain ⟨h1, h2⟩ := dn5_at l h
  have hc := com_at l h
  have e : (l.filter fun x => x.k == 5).length = (dn5 l).length := by unfold dn5; rw [List.length_map]
  rw [e]
  exact Nat.le_antisymm (nodup_le _ _ h1 fun n hn => (mem_decL hc n).2 ((h2 n).1 hn)) (nodup_le _ _ (decL_nodup hc) fun n hn => (h2 n).2 ((mem_decL hc n).1 hn))
end Go.Proofs.Ytcailhkaeledbaa
