/-
  age.sorted: a merge sort, by induction on the length.
-/
import Derived.Test.YtpllcjggjjapoaaNmE
import Derived.Test.YtpllcjggjjapoaaNmD
import Derived.Test.YtpllcjggjjapoaaStep
import Derived.Test.YtpllcjggjjapoaaOwn
import Derived.Test.YtpllcjggjjapoaaQuiet
namespace Go.Proofs.Ytpllcjggjjapoaa
open Go.RowKit

theorem info_nm : (Try.prog.info? 24).map (fun i => (i.zero, i.size, i.bytes)) = some (some (.agg #[.int .i64 0, .int .i64 0, .int .i64 0]), 3, 24) := by kernel_rfl
def SortedR (w : World) (l : List Nm) (n : Nat) (e : Ending) (w' : World) : Prop := ∃ v r, e = .returned v ∧ New w 24 3 n (nms r) v w' ∧ r.Perm l ∧ SortN r
abbrev fnLess : Value := .func (.func 21) #[] #[]
abbrev fSorted : FuncId := 20

set_option maxHeartbeats 1000000 in
theorem sorted_short (l : List Nm) (n : Nat) (hn : l.length = n) (a : Option Addr) (cap : Nat) (w : World) (hrd : Rd w a (nms l)) (h2 : n < 2) :
    Calls Try.prog fSorted #[.slice a n cap, fnLess] w (SortedR w l n) := by
  obtain ⟨i0, hi0, hz0, hz1, hz2⟩ := info_parts info_nm
  have Hrd := Lib.hid hrd
  have HN := Lib.hid hn
  clear hrd hn
  have hn2 : (n : Int) < 2 := by omega
  go_enter Try.func20, Try.ntmps20
  go_wp2_with (at_builtin; refine wpList_append_rd _ rfl (.const (.slice none 0 0)) (.tmp 11) 28 rfl w.heap.size 24 i0 _ 3 24 Try.underlying28 hi0 hz0 hz1 hz2 rfl (by decide) (.slice none 0 0) 0 [] rfl (World.ownsRow_nil _ _ _ _) _ _ _ (nms l) rfl Hrd.out ?q1 ?q2 ?q3 ?q4 ?q5 ?_)
  case q1 => rw [nms_length, HN.out]
  case q2 => exact nms_one l
  case q3 => unfold maxLen; omega
  case q4 => omega
  case q5 => exact Nat.le_refl _
  intro v w1 hown hgr _
  have G : Grows w w1 := (Grows.refl w).grown hgr (by intro k hk; cases hk)
  have HO := Lib.hid hown
  clear hown hgr
  go_wp2_with fail
  go_ret
  refine ⟨v, l, rfl, ⟨HO.out, G⟩, List.Perm.refl _, ?_⟩
  have := HN.out
  match l, this with
  | [], _ => exact List.Pairwise.nil
  | [x], _ => exact List.pairwise_singleton _ _
  | _ :: _ :: _, h => simp at h; omega

/-- What the loop of the merge holds. -/
def SrtI (l : List Nm) (wM : World) (gh : Nat) (va vb vo : Value) (wr : World) : Prop :=
  ∃ (A B out : List Nm) (na nb no : Nat) (aa bb : Option Addr) (ca cb : Nat), A.length = na ∧ B.length = nb ∧ out.length = no ∧ na + nb = gh ∧ no + gh ≤ 1000000 ∧ va = .slice aa na ca ∧ vb = .slice bb nb cb ∧ Rd wM aa (nms A) ∧ Rd wM bb (nms B) ∧ na ≤ ca ∧ nb ≤ cb ∧
    wr.ownsRow wM.heap.size 24 3 vo no (nms out) ∧ Grows wM wr ∧ MrgI l out A B

theorem cut_rd {w : World} {g off : Nat} {x : Nm} {A : List Nm} (h : Rd w (some ⟨g, off, none⟩) (nms (x :: A))) : Rd w (some ⟨g, off + 3, none⟩) (nms A) := by
  rcases h with h | ⟨b, o, e, hb, hc⟩
  · simp [nms, Nm.cs] at h
  · injection e with e
    injection e with e1 e2
    subst e1
    subst e2
    refine .inr ⟨g, off + 3, rfl, hb, fun i v hv => ?_⟩
    have := hc (3 + i) v (by rw [nms_cons, List.getElem?_append_right (by simp [Nm.cs])]; simpa [Nm.cs] using hv)
    rwa [show off + (3 + i) = off + 3 + i by omega] at this
theorem range_rd {w : World} {g off : Nat} {x : Nm} {A : List Nm} (h : Rd w (some ⟨g, off, none⟩) (nms (x :: A))) : w.rangeAt g off x.cs ∧ g < w.heap.size := by
  rcases h with h | ⟨b, o, e, hb, hc⟩
  · simp [nms, Nm.cs] at h
  · injection e with e
    injection e with e1 e2
    subst e1
    subst e2
    refine ⟨fun j v hv => hc j v ?_, hb⟩
    rw [nms_cons, List.getElem?_append_left (List.getElem?_eq_some_iff.1 hv).1]
    exact hv

set_option maxRecDepth 100000 in
set_option maxHeartbeats 4000000 in
theorem sorted_any (m : Nat) : ∀ (l : List Nm) (n : Nat) (a : Option Addr) (cap : Nat) (w : World), n ≤ m → l.length = n → Rd w a (nms l) → n ≤ cap → n ≤ 1000000 →
    Calls Try.prog fSorted #[.slice a n cap, fnLess] w (SortedR w l n) := by
  induction m with
  | zero =>
    intro l n a cap w hm hn hrd hc hl
    exact sorted_short l n hn a cap w hrd (by omega)
  | succ m ih =>
    intro l n a cap w hm hn hrd hc hl
    by_cases h2 : n < 2
    · exact sorted_short l n hn a cap w hrd h2
    obtain ⟨i0, hi0, hz0, hz1, hz2⟩ := info_parts info_nm
    obtain ⟨g, off, rfl, hgw⟩ : ∃ g off, a = some ⟨g, off, none⟩ ∧ g < w.heap.size := by
      obtain ⟨g, off, h1, h2, _⟩ := cells3 hrd (k := 0) (by omega)
      exact ⟨g, off, h1, h2⟩
    obtain ⟨q, hq⟩ : ∃ q : Nat, q = n / 2 := ⟨_, rfl⟩
    have CA : ∀ W, Grows w W → Hid (Calls Try.prog fSorted #[.slice (some ⟨g, off, none⟩) q cap, fnLess] W (SortedR W (l.take q) q)) := fun W hW =>
      ih (l.take q) q _ cap W (by omega) (by rw [List.length_take]; omega) (by rw [nms_take _ _ (by omega)]; exact rd_take (hrd.grows hW) _) (by omega) (by omega)
    have hrb : Rd w (some ⟨g, off + q * 3, none⟩) (nms (l.drop q)) := by
      have h1 := Rd.cut hrd (q * 3) ((n - q) * 3) (cap * 3) (by omega)
      rw [cutAddr, if_neg (by omega), ← nms_drop _ _ (by omega), List.take_of_length_le (by rw [nms_length, List.length_drop]; omega)] at h1
      simpa [Addr.add_mid] using h1
    have CB : ∀ W, Grows w W → Hid (Calls Try.prog fSorted #[.slice (some ⟨g, off + q * 3, none⟩) (n - q) (cap - q), fnLess] W (SortedR W (l.drop q) (n - q))) := fun W hW =>
      ih (l.drop q) (n - q) _ _ W (by omega) (by rw [List.length_drop]; omega) (hrb.grows hW) (by omega) (by omega)
    have hPl : (l.take q ++ l.drop q).Perm l := by rw [List.take_append_drop]
    have HPL := Lib.hid hPl
    have HN := Lib.hid hn
    have hn2 : ¬ ((n : Int) < 2) := by omega
    have hh0 : (0 : Int) ≤ (q : Int) := by omega
    have hh1 : (q : Int) ≤ (n : Int) := by omega
    have hh2 : (q : Int) ≤ (cap : Int) := by omega
    have hcc : (n : Int) ≤ (cap : Int) := by omega
    have hcn : ¬ (cap = q) := by omega
    have hqn : q < n := by omega
    have hdv : (n : Int).tdiv 2 = (q : Int) := by rw [Int.tdiv_eq_ediv_of_nonneg (by omega)]; omega
    have hdv2 : (n : Int) / 2 = (q : Int) := by omega
    have hdw : IntKind.i64.wrap (q : Int) = (q : Int) := IntWalk.i64_in _ (by omega)
    have hdw2 : IntKind.i64.wrap ((n : Int).tdiv 2) = (q : Int) := by rw [hdv]; exact hdw
    have g0 := Grows.refl w
    have g1 := (Grows.refl w).drew
    clear hrd hrb hPl hn ih hq
    go_enter Try.func20, Try.ntmps20
    go_wp2_with fail
    go_region_held3 (fun W => Grows w W) (assumption) (first
      | (go_at_call 20; (with_reducible refine (CA _ (by assumption)).out.mono ?_); rintro e wa ⟨va, ra, rfl, hNa, hPa, hSa⟩; obtain ⟨aa, ca, rfl, hca, hca2, hca3⟩ := own_slice hNa.1; have ka := Grows.trans (a := w) (by assumption) hNa.2)
      | (go_at_call 20; (with_reducible refine (CB _ (by assumption)).out.mono ?_); rintro e wb ⟨vb, rb, rfl, hNb, hPb, hSb⟩; obtain ⟨bb, cb, rfl, hcb, hcb2, hcb3⟩ := own_slice hNb.1; have kb := Grows.trans (a := w) (by assumption) hNb.2))
    clear hdv hdv2 hdw hdw2
    have RA := Lib.hid (hNa.rd.grows hNb.2)
    have RB := Lib.hid hNb.rd
    have hla : ra.length = q := by have := hNa.1.1; rw [nms_length] at this; omega
    have hlb : rb.length = n - q := by have := hNb.1.1; rw [nms_length] at this; omega
    have MI := Lib.hid (mrg_start (List.Perm.trans (List.Perm.append hPa hPb) HPL.out) hSa hSb)
    have HLA := Lib.hid hla
    have HLB := Lib.hid hlb
    clear hNa hNb hPa hPb hSa hSb hla hlb CA CB g0 g1 hca2 hcb2
    go_wp2_with (at_make; refine wpList_make_own _ rfl _ _ 28 rfl wb.heap.size 24 i0 _ 3 Try.underlying28 hi0 hz0 hz1 _ _ _ n rfl rfl rfl ?h1 ?h2 (Nat.le_refl _) ?_)
    case h1 => rw [hz2]; omega
    case h2 => unfold maxLen; omega
    intro w3 hown3 hgr3
    have G3 : Grows wb w3 := (Grows.refl wb).grown hgr3 (by intro k hk; cases hk)
    have I0 : Hid (SrtI l wb n (.slice aa q ca) (.slice bb (n - q) cb) (.slice (some ⟨wb.heap.size, 0, none⟩) 0 n) w3) :=
      ⟨ra, rb, [], q, n - q, 0, aa, bb, ca, cb, HLA.out, HLB.out, rfl, by omega, by omega, rfl, rfl, RA.out, RB.out, hca, hcb, hown3, G3, MI.out⟩
    clear hown3 hgr3 G3 RA RB MI HLA HLB
    go_wp2_with fail
    go_loopg [5, 6, 7] n (fun gh va vb vo wr => SrtI l wb gh va vb vo wr)
    case atStart => exact I0.out
    case round =>
      obtain ⟨A, B, out, na, nb, no, aa', bb', ca', cb', hA, hB, hO, hgh, hle, rfl, rfl, hra, hrb, hc1, hc2, hown, hg, hM⟩ := hrel
      have HA := Lib.hid hA
      have HB := Lib.hid hB
      have HO := Lib.hid hO
      have HM := Lib.hid hM
      have HRA := Lib.hid hra
      have HRB := Lib.hid hrb
      have HOW := Lib.hid hown
      clear hA hB hO hM hra hrb hown I0
      by_cases hboth : 0 < na ∧ 0 < nb
      · obtain ⟨na', rfl⟩ : ∃ k, na = k + 1 := ⟨na - 1, by omega⟩
        obtain ⟨nb', rfl⟩ : ∃ k, nb = k + 1 := ⟨nb - 1, by omega⟩
        obtain ⟨x, A', rfl⟩ : ∃ x A', A = x :: A' := by
          cases A with
          | nil => have := HA.out; simp at this
          | cons x A' => exact ⟨x, A', rfl⟩
        obtain ⟨y, B', rfl⟩ : ∃ y B', B = y :: B' := by
          cases B with
          | nil => have := HB.out; simp at this
          | cons y B' => exact ⟨y, B', rfl⟩
        obtain ⟨ga, oa, rfl, _⟩ : ∃ ga oa, aa' = some ⟨ga, oa, none⟩ ∧ True := by
          obtain ⟨ga, oa, h1, _⟩ := cells3 HRA.out (k := 0) (by simp)
          exact ⟨ga, oa, h1, trivial⟩
        obtain ⟨gb, ob, rfl, _⟩ : ∃ gb ob, bb' = some ⟨gb, ob, none⟩ ∧ True := by
          obtain ⟨gb, ob, h1, _⟩ := cells3 HRB.out (k := 0) (by simp)
          exact ⟨gb, ob, h1, trivial⟩
        clear hboth
        have hn1 : (0 : Int) < (na' : Int) + 1 := by omega
        have hn2' : (0 : Int) < (nb' : Int) + 1 := by omega
        have hra := range_rd (HRA.out.grows hg)
        have hrb := range_rd (HRB.out.grows hg)
        have LA := Lib.hid (ld_range (P := Try.prog) hra.1 hra.2 Try.underlying24 rfl (by kernel_rfl))
        have LB := Lib.hid (ld_range (P := Try.prog) hrb.1 hrb.2 Try.underlying24 rfl (by kernel_rfl))
        have HLs := Lib.hid (fun W => less_any y x W)
        have ca1 := Lib.hid (cells3 HRA.out (k := 0) (by simp))
        have cb1 := Lib.hid (cells3 HRB.out (k := 0) (by simp))
        have hA1 : A'.length = na' := by have := HA.out; simpa using this
        have hB1 : B'.length = nb' := by have := HB.out; simpa using this
        have HA1 := Lib.hid hA1
        have HB1 := Lib.hid hB1
        clear hra hrb hA1 hB1 HA HB
        have hca1 : (1 : Int) ≤ (na' : Int) + 1 := by omega
        have hcb1 : (1 : Int) ≤ (nb' : Int) + 1 := by omega
        have hca2 : (na' : Int) + 1 ≤ (ca' : Int) := by omega
        have hcb2 : (nb' : Int) + 1 ≤ (cb' : Int) := by omega
        unfold Nm.v at HLs
        unfold Nm.cs at LA LB
        go_wp2_with fail
        refine wp_region_class wr (by kernel_rfl) (by kernel_rfl) (Grows.refl _) ?_
        repeat (first
          | go_big_quiet_skip
          | (go_big_quiet_want; first
              | (refine quiet_load (b := gb) (off := ob) rfl LB.out ?_; (simp only [Act.put, List.setIfInBounds_toArray, List.set_cons_zero, List.set_cons_succ]); go_big_quiet_on)
              | (refine quiet_load (b := ga) (off := oa) rfl LA.out ?_; (simp only [Act.put, List.setIfInBounds_toArray, List.set_cons_zero, List.set_cons_succ]); go_big_quiet_on)
              | (go_big_quiet_op; first
                  | go_big_quiet_on
                  | (refine ⟨_, fun _ _ => rfl, ?_⟩; go_big_quiet_on)
                  | go_big_quiet_call ((intro hC; go_at_call 21; refine (HLs.out _).mono ?_; rintro e w11 ⟨rfl, hg'⟩; exact ⟨rfl, hC.trans hg'⟩)))))
        refine wpQuiet_nil ?_
        intro w4 hb4
        have hg4 := hg.trans hb4
        have OW4 := Lib.hid (own_grows HOW.out hb4)
        clear LA LB HLs HOW
        cases hls : lessN y x
        · have HM2 := Lib.hid (mrg_a HM.out hls)
          clear hls HM
          obtain ⟨g', o', he, hgx, d0, d1, d2⟩ := ca1.out
          injection he with he
          injection he with e1 e2
          subst e1
          subst e2
          simp only [Nat.zero_mul, Nat.add_zero, List.getElem_cons_zero] at d0 d1 d2
          have d1' : wb.cell? ⟨ga, oa + 1, none⟩ = some (.int .i64 x.i) := d1
          have d2' : wb.cell? ⟨ga, oa + 2, none⟩ = some (.int .i64 x.t) := d2
          have KS : ∀ W, Grows wb W → Grows wb W ∧ W.cell? ⟨ga, oa, none⟩ = some (.int .i64 x.s) ∧ W.cell? ⟨ga, oa + 1, none⟩ = some (.int .i64 x.i) ∧ W.cell? ⟨ga, oa + 2, none⟩ = some (.int .i64 x.t) := fun W hW => ⟨hW, (hW.cell _ _ hgx).trans d0, (hW.cell _ _ hgx).trans d1', (hW.cell _ _ hgx).trans d2'⟩
          have HKS := Lib.hid KS
          clear KS d0 d1 d2 d1' d2'
          have k0 := hg4.drew
          have k1 := k0.alloc (.cells #[.int .i64 x.s, .int .i64 x.i, .int .i64 x.t] 24)
          have k2 := (hg4.alloc (.cells #[.int .i64 x.s, .int .i64 x.i, .int .i64 x.t] 24)).drew
          by_cases hcap1 : ca' = 1
          · obtain rfl : na' = 0 := by omega
            obtain rfl : A' = [] := List.eq_nil_of_length_eq_zero HA1.out
            subst hcap1
            have HRX' := Lib.hid (Rd.nil wb (some ⟨ga, oa, none⟩))
            go_wp2_with fail
            go_region_held3 (fun W => Grows wb W ∧ W.cell? ⟨ga, oa, none⟩ = some (.int .i64 x.s) ∧ W.cell? ⟨ga, oa + 1, none⟩ = some (.int .i64 x.i) ∧ W.cell? ⟨ga, oa + 2, none⟩ = some (.int .i64 x.t)) (exact HKS.out _ (by assumption)) ((refine step_append_rd rfl (.tmp 54) (.tmp 58) 28 rfl wb.heap.size 24 i0 _ 3 24 Try.underlying28 hi0 hz0 hz1 hz2 rfl (by decide) u7 no (nms out) rfl (by first | exact own_grows OW4.out ((Grows.refl _).drew.alloc _) | exact own_grows OW4.out (((Grows.refl _).alloc _).drew)) (some ⟨w4.heap.size, 0, none⟩) 1 1 x.cs rfl (by first | exact rd_new w4.drew #[.int .i64 x.s, .int .i64 x.i, .int .i64 x.t] 24 (0, 0) | exact (rd_new w4 #[.int .i64 x.s, .int .i64 x.i, .int .i64 x.t] 24 (0, 0)).grows ((Grows.refl _).drew)) rfl (by intro u hu; exact nms_one [x] u (by simpa [nms] using hu)) (by unfold maxLen; omega) (by omega) (Grows.size (by assumption)) ?_; intro v5 w5 hown5 hgr5 _; have G5 : Grows wb w5 := Grows.grown (by assumption) hgr5 (by intro k hk; exact (OW4.out.lt k hk).1)))
            have HO5 := Lib.hid hown5
            clear hown5 hgr5 k0 k1 k2
            have HRX := HRX'.out
            go_wp2_with fail
            go_roundg (gk - 1)
            case measure => omega
            case rel => exact ⟨_, y :: B', out ++ [x], _, _, no + 1, _, _, _, _, HA1.out, by simp [HB1.out], by simp [HO.out], by omega, by omega, rfl, rfl, HRX, HRB.out, by omega, hc2, by rw [nms_append]; exact HO5.out, G5, HM2.out⟩
          · have hcap2 : ¬ ((ca' : Nat) : Int) = 1 := by omega
            have HRX' := Lib.hid (cut_rd HRA.out)
            go_wp2_with fail
            go_region_held3 (fun W => Grows wb W ∧ W.cell? ⟨ga, oa, none⟩ = some (.int .i64 x.s) ∧ W.cell? ⟨ga, oa + 1, none⟩ = some (.int .i64 x.i) ∧ W.cell? ⟨ga, oa + 2, none⟩ = some (.int .i64 x.t)) (exact HKS.out _ (by assumption)) ((refine step_append_rd rfl (.tmp 54) (.tmp 58) 28 rfl wb.heap.size 24 i0 _ 3 24 Try.underlying28 hi0 hz0 hz1 hz2 rfl (by decide) u7 no (nms out) rfl (by first | exact own_grows OW4.out ((Grows.refl _).drew.alloc _) | exact own_grows OW4.out (((Grows.refl _).alloc _).drew)) (some ⟨w4.heap.size, 0, none⟩) 1 1 x.cs rfl (by first | exact rd_new w4.drew #[.int .i64 x.s, .int .i64 x.i, .int .i64 x.t] 24 (0, 0) | exact (rd_new w4 #[.int .i64 x.s, .int .i64 x.i, .int .i64 x.t] 24 (0, 0)).grows ((Grows.refl _).drew)) rfl (by intro u hu; exact nms_one [x] u (by simpa [nms] using hu)) (by unfold maxLen; omega) (by omega) (Grows.size (by assumption)) ?_; intro v5 w5 hown5 hgr5 _; have G5 : Grows wb w5 := Grows.grown (by assumption) hgr5 (by intro k hk; exact (OW4.out.lt k hk).1)))
            have HO5 := Lib.hid hown5
            clear hown5 hgr5 k0 k1 k2
            have HRX := HRX'.out
            go_wp2_with fail
            go_roundg (gk - 1)
            case measure => omega
            case rel => exact ⟨_, y :: B', out ++ [x], _, _, no + 1, _, _, _, _, HA1.out, by simp [HB1.out], by simp [HO.out], by omega, by omega, rfl, rfl, HRX, HRB.out, by omega, hc2, by rw [nms_append]; exact HO5.out, G5, HM2.out⟩
        · have HM2 := Lib.hid (mrg_b HM.out hls)
          clear hls HM
          obtain ⟨g', o', he, hgx, d0, d1, d2⟩ := cb1.out
          injection he with he
          injection he with e1 e2
          subst e1
          subst e2
          simp only [Nat.zero_mul, Nat.add_zero, List.getElem_cons_zero] at d0 d1 d2
          have d1' : wb.cell? ⟨gb, ob + 1, none⟩ = some (.int .i64 y.i) := d1
          have d2' : wb.cell? ⟨gb, ob + 2, none⟩ = some (.int .i64 y.t) := d2
          have KS : ∀ W, Grows wb W → Grows wb W ∧ W.cell? ⟨gb, ob, none⟩ = some (.int .i64 y.s) ∧ W.cell? ⟨gb, ob + 1, none⟩ = some (.int .i64 y.i) ∧ W.cell? ⟨gb, ob + 2, none⟩ = some (.int .i64 y.t) := fun W hW => ⟨hW, (hW.cell _ _ hgx).trans d0, (hW.cell _ _ hgx).trans d1', (hW.cell _ _ hgx).trans d2'⟩
          have HKS := Lib.hid KS
          clear KS d0 d1 d2 d1' d2'
          have k0 := hg4.drew
          have k1 := k0.alloc (.cells #[.int .i64 y.s, .int .i64 y.i, .int .i64 y.t] 24)
          have k2 := (hg4.alloc (.cells #[.int .i64 y.s, .int .i64 y.i, .int .i64 y.t] 24)).drew
          by_cases hcap1 : cb' = 1
          · obtain rfl : nb' = 0 := by omega
            obtain rfl : B' = [] := List.eq_nil_of_length_eq_zero HB1.out
            subst hcap1
            have HRX' := Lib.hid (Rd.nil wb (some ⟨gb, ob, none⟩))
            go_wp2_with fail
            go_region_held3 (fun W => Grows wb W ∧ W.cell? ⟨gb, ob, none⟩ = some (.int .i64 y.s) ∧ W.cell? ⟨gb, ob + 1, none⟩ = some (.int .i64 y.i) ∧ W.cell? ⟨gb, ob + 2, none⟩ = some (.int .i64 y.t)) (exact HKS.out _ (by assumption)) ((refine step_append_rd rfl (.tmp 46) (.tmp 50) 28 rfl wb.heap.size 24 i0 _ 3 24 Try.underlying28 hi0 hz0 hz1 hz2 rfl (by decide) u7 no (nms out) rfl (by first | exact own_grows OW4.out ((Grows.refl _).drew.alloc _) | exact own_grows OW4.out (((Grows.refl _).alloc _).drew)) (some ⟨w4.heap.size, 0, none⟩) 1 1 y.cs rfl (by first | exact rd_new w4.drew #[.int .i64 y.s, .int .i64 y.i, .int .i64 y.t] 24 (0, 0) | exact (rd_new w4 #[.int .i64 y.s, .int .i64 y.i, .int .i64 y.t] 24 (0, 0)).grows ((Grows.refl _).drew)) rfl (by intro u hu; exact nms_one [y] u (by simpa [nms] using hu)) (by unfold maxLen; omega) (by omega) (Grows.size (by assumption)) ?_; intro v5 w5 hown5 hgr5 _; have G5 : Grows wb w5 := Grows.grown (by assumption) hgr5 (by intro k hk; exact (OW4.out.lt k hk).1)))
            have HO5 := Lib.hid hown5
            clear hown5 hgr5 k0 k1 k2
            have HRX := HRX'.out
            go_wp2_with fail
            go_roundg (gk - 1)
            case measure => omega
            case rel => exact ⟨x :: A', _, out ++ [y], _, _, no + 1, _, _, _, _, by simp [HA1.out], HB1.out, by simp [HO.out], by omega, by omega, rfl, rfl, HRA.out, HRX, hc1, by omega, by rw [nms_append]; exact HO5.out, G5, HM2.out⟩
          · have hcap2 : ¬ ((cb' : Nat) : Int) = 1 := by omega
            have HRX' := Lib.hid (cut_rd HRB.out)
            go_wp2_with fail
            go_region_held3 (fun W => Grows wb W ∧ W.cell? ⟨gb, ob, none⟩ = some (.int .i64 y.s) ∧ W.cell? ⟨gb, ob + 1, none⟩ = some (.int .i64 y.i) ∧ W.cell? ⟨gb, ob + 2, none⟩ = some (.int .i64 y.t)) (exact HKS.out _ (by assumption)) ((refine step_append_rd rfl (.tmp 46) (.tmp 50) 28 rfl wb.heap.size 24 i0 _ 3 24 Try.underlying28 hi0 hz0 hz1 hz2 rfl (by decide) u7 no (nms out) rfl (by first | exact own_grows OW4.out ((Grows.refl _).drew.alloc _) | exact own_grows OW4.out (((Grows.refl _).alloc _).drew)) (some ⟨w4.heap.size, 0, none⟩) 1 1 y.cs rfl (by first | exact rd_new w4.drew #[.int .i64 y.s, .int .i64 y.i, .int .i64 y.t] 24 (0, 0) | exact (rd_new w4 #[.int .i64 y.s, .int .i64 y.i, .int .i64 y.t] 24 (0, 0)).grows ((Grows.refl _).drew)) rfl (by intro u hu; exact nms_one [y] u (by simpa [nms] using hu)) (by unfold maxLen; omega) (by omega) (Grows.size (by assumption)) ?_; intro v5 w5 hown5 hgr5 _; have G5 : Grows wb w5 := Grows.grown (by assumption) hgr5 (by intro k hk; exact (OW4.out.lt k hk).1)))
            have HO5 := Lib.hid hown5
            clear hown5 hgr5 k0 k1 k2
            have HRX := HRX'.out
            go_wp2_with fail
            go_roundg (gk - 1)
            case measure => omega
            case rel => exact ⟨x :: A', _, out ++ [y], _, _, no + 1, _, _, _, _, by simp [HA1.out], HB1.out, by simp [HO.out], by omega, by omega, rfl, rfl, HRA.out, HRX, hc1, by omega, by rw [nms_append]; exact HO5.out, G5, HM2.out⟩
      · have hemp : A = [] ∨ B = [] := by
          by_cases h0 : 0 < na
          · right
            exact List.eq_nil_of_length_eq_zero (by have := HB.out; omega)
          · left
            exact List.eq_nil_of_length_eq_zero (by have := HA.out; omega)
        have HS := Lib.hid (mrg_end HM.out hemp)
        have HP := Lib.hid HM.out.perm
        have RA := Lib.hid (HRA.out.grows hg)
        clear hemp HM HRA
        by_cases h0 : 0 < na
        · have e1 : decide (0 < na) = true := by simpa using h0
          have e2 : decide (0 < nb) = false := by simp; omega
          clear h0 hboth
          go_wp2_with (at_builtin; refine wpList_append_rd _ rfl (.tmp 62) (.tmp 63) 28 rfl wb.heap.size 24 i0 _ 3 24 Try.underlying28 hi0 hz0 hz1 hz2 rfl (by decide) u7 no (nms out) rfl HOW.out _ na _ (nms A) rfl RA.out ?pa ?pb ?pc ?pd ?pe ?_)
          case pa => rw [nms_length, HA.out]
          case pb => exact nms_one A
          case pc => unfold maxLen; omega
          case pd => omega
          case pe => exact hg.size
          intro v6 w6 hown6 hgr6 _
          have G6 : Grows wb w6 := hg.grown hgr6 (by intro k hk; exact (HOW.out.lt k hk).1)
          have OW6 := Lib.hid hown6
          have RB := Lib.hid (HRB.out.grows G6)
          clear hown6 hgr6
          go_wp2_with (at_builtin; refine wpList_append_rd _ rfl (.tmp 64) (.tmp 65) 28 rfl wb.heap.size 24 i0 _ 3 24 Try.underlying28 hi0 hz0 hz1 hz2 rfl (by decide) v6 (no + na) (nms out ++ nms A) rfl OW6.out _ nb _ (nms B) rfl RB.out ?pf ?pg ?ph ?pi ?pj ?_)
          case pf => rw [nms_length, HB.out]
          case pg => exact nms_one B
          case ph => unfold maxLen; omega
          case pi => omega
          case pj => exact G6.size
          intro v7 w7 hown7 hgr7 _
          have G7 : Grows wb w7 := G6.grown hgr7 (by intro k hk; exact (OW6.out.lt k hk).1)
          have OW7 := Lib.hid hown7
          clear hown7 hgr7
          go_wp2_with fail
          go_ret
          have hlen : no + na + nb = n := by
            have h1 := HP.out.length_eq
            simp only [List.length_append, HA.out, HB.out, HO.out, HN.out] at h1
            exact h1
          refine ⟨v7, out ++ A ++ B, rfl, ⟨?_, kb.trans G7⟩, HP.out, HS.out⟩
          rw [nms_append, nms_append, List.append_assoc, ← hlen]
          exact own_lower OW7.out kb.size
        · have e1 : decide (0 < na) = false := by simpa using h0
          clear h0 hboth
          go_wp2_with (at_builtin; refine wpList_append_rd _ rfl (.tmp 62) (.tmp 63) 28 rfl wb.heap.size 24 i0 _ 3 24 Try.underlying28 hi0 hz0 hz1 hz2 rfl (by decide) u7 no (nms out) rfl HOW.out _ na _ (nms A) rfl RA.out ?qa ?qb ?qc ?qd ?qe ?_)
          case qa => rw [nms_length, HA.out]
          case qb => exact nms_one A
          case qc => unfold maxLen; omega
          case qd => omega
          case qe => exact hg.size
          intro v6 w6 hown6 hgr6 _
          have G6 : Grows wb w6 := hg.grown hgr6 (by intro k hk; exact (HOW.out.lt k hk).1)
          have OW6 := Lib.hid hown6
          have RB := Lib.hid (HRB.out.grows G6)
          clear hown6 hgr6
          go_wp2_with (at_builtin; refine wpList_append_rd _ rfl (.tmp 64) (.tmp 65) 28 rfl wb.heap.size 24 i0 _ 3 24 Try.underlying28 hi0 hz0 hz1 hz2 rfl (by decide) v6 (no + na) (nms out ++ nms A) rfl OW6.out _ nb _ (nms B) rfl RB.out ?qf ?qg ?qh ?qi ?qj ?_)
          case qf => rw [nms_length, HB.out]
          case qg => exact nms_one B
          case qh => unfold maxLen; omega
          case qi => omega
          case qj => exact G6.size
          intro v7 w7 hown7 hgr7 _
          have G7 : Grows wb w7 := G6.grown hgr7 (by intro k hk; exact (OW6.out.lt k hk).1)
          have OW7 := Lib.hid hown7
          clear hown7 hgr7
          go_wp2_with fail
          go_ret
          have hlen : no + na + nb = n := by
            have h1 := HP.out.length_eq
            simp only [List.length_append, HA.out, HB.out, HO.out, HN.out] at h1
            exact h1
          refine ⟨v7, out ++ A ++ B, rfl, ⟨?_, kb.trans G7⟩, HP.out, HS.out⟩
          rw [nms_append, nms_append, List.append_assoc, ← hlen]
          exact own_lower OW7.out kb.size
end Go.Proofs.Ytpllcjggjjapoaa
