/-
  slices.Clone of writes, overlay.Over, cashboxref07.Written.
-/
import Derived.Test.YtpjcekhpkipddaaOvE
import Derived.Test.YtpjcekhpkipddaaOvF
import Derived.Test.YtpjcekhpkipddaaOwn
namespace Go.Proofs.Ytpjcekhpkipddaa
open Go.RowKit

theorem clone_nil (w : World) : Calls Try.prog 18 #[.slice none 0 0] w fun e w' => e = .returned (.slice none 0 0) ∧ Grows w w' := by
  have hq := fun (W : World) (a : Option Addr) (l c : Nat) => Lib.run_eql_slice_nil (P := Try.prog) W 22 26 a l c 0 0 Try.underlying22
  go_enter Try.func18, Try.ntmps18
  go_wp2_with fail
  go_ret
  exact ⟨rfl, Grows.refl _⟩
theorem clone_some (l : List Wr) (n : Nat) (hn : l.length = n) (h8 : W8 l) (a : Addr) (cap : Nat) (w : World) (hrd : Rd w (some a) (wrs l)) (hl : n ≤ 1000000) :
    Calls Try.prog 18 #[.slice (some a) n cap] w (RetNew w 26 9 n (wrs l)) := by
  obtain ⟨i0, hi0, hz0, hz1, hz2⟩ := info_parts info_wr
  have Hrd := Lib.hid hrd
  have H8 := Lib.hid h8
  have HN := Lib.hid hn
  clear hrd h8 hn
  have hq := fun (W : World) (a : Option Addr) (l c : Nat) => Lib.run_eql_slice_nil (P := Try.prog) W 22 26 a l c 0 0 Try.underlying22
  go_enter Try.func18, Try.ntmps18
  go_wp2_with (at_builtin; refine wpList_append_rd _ rfl (.tmp 5) (.tmp 6) 22 rfl w.heap.size 26 i0 _ 9 16 Try.underlying22 hi0 hz0 hz1 hz2 rfl (by decide) _ 0 _ rfl (own_empty w 26 9) _ _ _ (wrs l) rfl (Hrd.out.grows ((Grows.refl _).alloc _)) ?q1 ?q2 ?q3 ?q4 ?q5 ?_)
  case q1 => exact (wrs_length l H8.out).trans (by rw [HN.out])
  case q2 => exact wrs_one l
  case q3 => unfold maxLen; omega
  case q4 => omega
  case q5 => simp
  intro v w1 hown hgr _
  have G : Grows w w1 := ((Grows.refl w).alloc _).grown hgr (by intro k hk; simp [Value.ownBlock] at hk; omega)
  have HO := Lib.hid hown
  clear hown hgr
  go_wp2_with fail
  go_ret
  exact ⟨v, rfl, HO.out, G⟩

def overL : List Wr → List Wr → List Wr
  | a, [] => a
  | a, x :: xs => overL (ins x a) xs
def overE : List Wr → List Wr → Int
  | _, [] => 0
  | a, x :: xs => if putE a x = 0 then overE (ins x a) xs else putE a x

/-- What Over hands back. -/
def OverR (w : World) (a b : List Wr) (e : Ending) (w' : World) : Prop :=
  (overE a b ≠ 0 ∧ e = .returned (.tuple #[.slice none 0 0, .int .i64 (overE a b)]) ∧ Grows w w') ∨
  (overE a b = 0 ∧ ∃ ad c, e = .returned (.tuple #[.slice ad (overL a b).length c, .int .i64 0]) ∧ Rd w' ad (wrs (overL a b)) ∧ Grows w w')

theorem over_step {a b l : List Wr} {k : Nat} {x : Wr} (h : k < b.length) (hx : b[k] = x) (hE : overE a b = overE l (b.drop k)) (hL : overL a b = overL l (b.drop k)) :
    overE a b = (if putE l x = 0 then overE (ins x l) (b.drop (k + 1)) else putE l x) ∧ overL a b = overL (ins x l) (b.drop (k + 1)) := by
  rw [List.drop_eq_getElem_cons h, hx] at hE hL
  exact ⟨hE, hL⟩
theorem over_end {a b l : List Wr} (hE : overE a b = overE l (b.drop b.length)) (hL : overL a b = overL l (b.drop b.length)) : overE a b = 0 ∧ overL a b = l := by
  rw [List.drop_of_length_le (Nat.le_refl _)] at hE hL
  exact ⟨hE, hL⟩

/-- What the loop of Over holds. -/
def OverI (w : World) (a b : List Wr) (k : Nat) (v : Value) (wr : World) : Prop :=
  ∃ (l : List Wr) (ad : Option Addr) (m c : Nat), v = .slice ad m c ∧ l.length = m ∧ W8 l ∧ Rd wr ad (wrs l) ∧ m ≤ c ∧ (ad = none → m = 0 ∧ c = 0) ∧ m ≤ 8 ∧ Grows w wr ∧ overE a b = overE l (b.drop k) ∧ overL a b = overL l (b.drop k)

set_option maxHeartbeats 1000000 in
theorem over_any (la lb : List Wr) (na nb : Nat) (ha : la.length = na) (hb : lb.length = nb) (h8a : W8 la) (h8b : W8 lb) (a b : Option Addr) (ca cb : Nat) (w : World) (hra : Rd w a (wrs la)) (hrb : Rd w b (wrs lb)) (hca : na ≤ ca) (hna : a = none → na = 0 ∧ ca = 0) (hwa : writtenB la = true) (hwb : writtenB lb = true) :
    Calls Try.prog 11 #[.slice a na ca, .slice b nb cb] w (OverR w la lb) := by
  have h8a' : na ≤ 8 := by have := written_le hwa; omega
  have h8b' : nb ≤ 8 := by have := written_le hwb; omega
  have HRA := Lib.hid hra
  have HRB := Lib.hid hrb
  have H8A := Lib.hid h8a
  have H8B := Lib.hid h8b
  have HA := Lib.hid ha
  have HB := Lib.hid hb
  have HNA := Lib.hid hna
  clear hra hrb h8a h8b ha hb hna
  go_enter Try.func11, Try.ntmps11
  go_wp2_with fail
  refine (written_any la na HA.out H8A.out a ca _ HRA.out (by omega)).mono ?_
  rw [hwa]
  rintro e w1 ⟨rfl, hb1⟩
  go_wp2_with fail
  refine (written_any lb nb HB.out H8B.out b cb _ (HRB.out.grows hb1) (by omega)).mono ?_
  rw [hwb]
  rintro e w2 ⟨rfl, hb2⟩
  go_wp2_with fail
  have G2 := hb1.trans hb2
  have key : Calls Try.prog 18 #[.slice a na ca] w2 (fun e w' => ∃ v, e = .returned v ∧ OverI w la lb 0 v w') := by
    cases a with
    | none =>
      obtain ⟨rfl, rfl⟩ := HNA.out rfl
      refine (clone_nil w2).mono ?_
      rintro e w3 ⟨rfl, hb3⟩
      obtain rfl : la = [] := List.eq_nil_of_length_eq_zero HA.out
      exact ⟨_, rfl, [], none, 0, 0, rfl, rfl, H8A.out, Rd.nil _ _, Nat.le_refl _, (fun _ => ⟨rfl, rfl⟩), by omega, G2.trans hb3, rfl, rfl⟩
    | some ad =>
      refine (clone_some la na HA.out H8A.out ad ca w2 (HRA.out.grows G2) (by omega)).mono ?_
      rintro e w3 ⟨v, rfl, hN⟩
      obtain ⟨ad', c', rfl, h1, h2, h3⟩ := own_slice hN.1
      exact ⟨_, rfl, la, ad', na, c', rfl, HA.out, H8A.out, hN.rd, h1, h2, h8a', G2.trans hN.2, rfl, rfl⟩
  refine key.mono ?_
  clear key
  rintro e w3 ⟨v, rfl, hI⟩
  have HI := Lib.hid hI
  clear hI
  go_wp2_with fail
  go_loopg [6, 23] nb (fun gh v i wr => ∃ (k : Nat), k + gh = nb ∧ i = .int .i64 (k : Int) ∧ OverI w la lb k v wr)
  case atStart => exact ⟨0, by omega, rfl, HI.out⟩
  case round =>
    obtain ⟨k, hk, rfl, hI⟩ := hrel
    obtain ⟨l, ad, m, c, rfl, hl, h8, hr, hc, hn, hm, hg, hE, hL⟩ := hI
    have HE := Lib.hid hE
    have HL := Lib.hid hL
    have HM := Lib.hid hl
    have H8 := Lib.hid h8
    have HR := Lib.hid hr
    have HN := Lib.hid hn
    clear hl h8 hr hn hE hL
    by_cases hlt : k < nb
    · obtain ⟨g, off, q, x0, x1, x2, x3, x4, x5, x6, x7, rfl, hgw, hek, c0, c1, c2, c3, c4, c5, c6, c7, c8⟩ := cells9 H8B.out (HRB.out.grows hg) (k := k) (by rw [HB.out]; exact hlt)
      have HS := Lib.hid (over_step (by rw [HB.out]; exact hlt) hek HE.out HL.out)
      clear hek
      have hlt' : (k : Int) < (nb : Int) := by omega
      have hk0 : (0 : Int) ≤ (k : Int) := by omega
      go_wp2_with fail
      by_cases hP : putE l (q, [x0, x1, x2, x3, x4, x5, x6, x7]) = 0
      · have HW := Lib.hid (written_le (written_ins hP))
        have HS1 := HS.out.1
        rw [if_pos hP] at HS1
        have HS2 := HS.out.2
        have HT1 := Lib.hid HS1
        have HT2 := Lib.hid HS2
        clear HS1 HS2 HS
        refine (put_good l m HM.out H8.out ad c q x0 x1 x2 x3 x4 x5 x6 x7 _ (HR.out.grows ((Grows.refl _).alloc _)) hc HN.out hP).mono ?_
        rintro e w4 ⟨g4, m4, c4, rfl, hm4, hr4, hc4, hb4⟩
        have HM4 := Lib.hid hm4
        have HR4 := Lib.hid hr4
        clear hr4 hm4 hP
        go_wp2_with fail
        go_roundg (gk - 1)
        case measure => omega
        case rel =>
          exact ⟨k + 1, by omega, by go_num, _, _, m4, c4, rfl, HM4.out, W8_ins H8.out rfl, HR4.out, hc4, (fun h => by cases h), by rw [← HM4.out]; exact HW.out.1, (hg.alloc _).trans hb4, HT1.out, HT2.out⟩
      · have HS1 := HS.out.1
        rw [if_neg hP] at HS1
        have HT1 := Lib.hid HS1
        clear HS1 HS
        refine (put_bad l m HM.out H8.out ad c q x0 x1 x2 x3 x4 x5 x6 x7 _ (HR.out.grows ((Grows.refl _).alloc _)) (by omega) hP).mono ?_
        rintro e w4 ⟨rfl, hb4⟩
        have HT1 := HT1.out
        generalize putE l (q, [x0, x1, x2, x3, x4, x5, x6, x7]) = eA at *
        have h1 : (eA == 0) = false := by simpa using hP
        have h2 : (eA != 0) = true := by simpa using hP
        have HP := Lib.hid hP
        have HT := Lib.hid HT1
        clear hP HT1
        go_wp2_with fail
        go_ret2
        exact .inl ⟨by rw [HT.out]; exact HP.out, by rw [HT.out]; rfl, (hg.alloc _).trans hb4⟩
    · obtain rfl : k = nb := by omega
      have HF := over_end (by have := HE.out; rwa [← HB.out] at this) (by have := HL.out; rwa [← HB.out] at this)
      have HF1 := Lib.hid HF.1
      have HF2 := Lib.hid HF.2
      clear HF
      go_wp2_with fail
      go_ret2
      exact .inr ⟨HF1.out, ad, c, by rw [HF2.out, HM.out]; rfl, by rw [HF2.out]; exact HR.out, hg⟩

/-- Blocks that rise from place k on, the last one being at place k - 1. -/
def lastOf (l : List Wr) (k : Nat) : Int := if k = 0 then -1 else (l.getD (k - 1) (0, [])).1
theorem lastOf_succ {l : List Wr} {k : Nat} (h : k < l.length) {x : Wr} (hx : l[k] = x) : lastOf l (k + 1) = x.1 := by
  simp [lastOf, List.getElem?_eq_getElem h, hx]
set_option maxHeartbeats 1000000 in
theorem ref_written (l : List Wr) (n : Nat) (hn : l.length = n) (h8 : W8 l) (a : Option Addr) (cap : Nat) (w : World) (hrd : Rd w a (wrs l)) :
    Calls Try.prog 10 #[.slice a n cap] w fun e w' => e = .returned (.bool (writtenB l)) ∧ Grows w w' := by
  have Hrd := Lib.hid hrd
  have H8 := Lib.hid h8
  have HN := Lib.hid hn
  clear hrd h8 hn
  by_cases hgt : 8 < (n : Int)
  · have hw : writtenB l = false := by have := HN.out; simp [writtenB]; omega
    rw [hw]
    go_enter Try.func10, Try.ntmps10
    go_wp2_with fail
    go_ret
    exact ⟨rfl, Grows.refl _⟩
  · have hw : writtenB l = goesUp (-1) l := by have := HN.out; simp [writtenB]; omega
    rw [hw]
    go_enter Try.func10, Try.ntmps10
    go_wp2_with fail
    go_loopg [3] n (fun gh i wr => ∃ (k : Nat), k + gh = n ∧ i = .int .i64 (k : Int) ∧ Grows w wr ∧ -1 ≤ lastOf l k ∧ goesUp (-1) l = goesUp (lastOf l k) (l.drop k))
    case atStart => exact ⟨0, by omega, rfl, Grows.refl _, Int.le_refl _, rfl⟩
    case round =>
      obtain ⟨k, hk, rfl, hg, hge, hup⟩ := hrel
      have HUP := Lib.hid hup
      clear hup
      by_cases hlt : k < n
      · obtain ⟨g, off, b, x0, x1, x2, x3, x4, x5, x6, x7, rfl, hgw, hek, c0, _⟩ := cells9 H8.out (Hrd.out.grows hg) (k := k) (by rw [HN.out]; exact hlt)
        have HD := Lib.hid (drop_up (by rw [HN.out]; exact hlt) hek (lastOf l k))
        have HL := Lib.hid (lastOf_succ (by rw [HN.out]; exact hlt) hek)
        clear hek
        have hlt' : (k : Int) < (n : Int) := by omega
        have hk0 : (0 : Int) ≤ (k : Int) := by omega
        by_cases hb1 : b < 0
        · have hd1 : decide (b < 0) = true := by simpa using hb1
          have HF : Hid (goesUp (-1) l = false) := by show _ = _; rw [HUP.out, HD.out]; simp; omega
          go_wp2_with fail
          go_quiet (fail)
          go_wp2_with fail
          go_ret
          exact ⟨by rw [HF.out]; rfl, hg.drewN _⟩
        have hd1 : decide (b < 0) = false := by simpa using hb1
        by_cases hb2 : 32 ≤ b
        · have hd2 : decide (32 ≤ b) = true := by simpa using hb2
          have HF : Hid (goesUp (-1) l = false) := by show _ = _; rw [HUP.out, HD.out]; simp; omega
          go_wp2_with fail
          go_quiet (fail)
          go_wp2_with fail
          go_ret
          exact ⟨by rw [HF.out]; rfl, hg.drewN _⟩
        have hd2 : decide (32 ≤ b) = false := by simpa using hb2
        by_cases hk1 : k = 0
        · have hk2 : ¬ (0 : Int) < (k : Int) := by omega
          have hk3 : decide (0 < k) = false := by simp; omega
          have HN1 : Hid (goesUp (-1) l = goesUp b (l.drop (k + 1))) := by
            show _ = _
            rw [HUP.out, HD.out]
            have h3 : lastOf l k < b := by rw [hk1]; show -1 < b; omega
            have h4 : b < 32 := by omega
            simp [h3, h4]
          clear hk1
          go_wp2_with fail
          go_quiet (fail)
          go_wp2_with fail
          go_roundg (gk - 1)
          case measure => omega
          case rel => exact ⟨k + 1, by omega, by go_num, hg.drewN _, by rw [HL.out]; show -1 ≤ b; omega, by rw [HN1.out, HL.out]⟩
        · obtain ⟨g', off', p, y0, y1, y2, y3, y4, y5, y6, y7, heq, hgw', hek', d0, _⟩ := cells9 H8.out (Hrd.out.grows hg) (k := k - 1) (by rw [HN.out]; omega)
          injection heq with heq
          injection heq with e1 e2
          subst e1
          subst e2
          have HP : Hid (lastOf l k = p) := by
            show _ = _
            have := lastOf_succ (by rw [HN.out]; omega) hek'
            rwa [show k - 1 + 1 = k by omega] at this
          clear hek'
          have hk2 : (0 : Int) < (k : Int) := by omega
          have hk3 : decide (0 < k) = true := by simp; omega
          have hk4 : (0 : Int) ≤ (k : Int) - 1 := by omega
          have hk7 : (1 : Int) ≤ (k : Int) := by omega
          have hk6 : (k : Int) - 1 < (n : Int) := by omega
          have hw1 : IntKind.i64.wrap ((k : Int) - 1) = (k : Int) - 1 := IntWalk.i64_in _ (by omega)
          have hk5 : ((k : Int) - 1).toNat = k - 1 := by omega
          by_cases hb3 : b ≤ p
          · have hd3 : decide (b ≤ p) = true := by simpa using hb3
            have HF : Hid (goesUp (-1) l = false) := by show _ = _; rw [HUP.out, HD.out, HP.out]; simp; omega
            go_wp2_with fail
            go_quiet (fail)
            clear hw1 hk5
            go_wp2_with fail
            go_ret
            exact ⟨by rw [HF.out]; rfl, hg.drewN _⟩
          · have hd3 : decide (b ≤ p) = false := by simpa using hb3
            have HN1 : Hid (goesUp (-1) l = goesUp b (l.drop (k + 1))) := by
              show _ = _
              rw [HUP.out, HD.out, HP.out]
              have h3 : p < b := by omega
              have h4 : b < 32 := by omega
              simp [h3, h4]
            go_wp2_with fail
            go_quiet (fail)
            clear hw1 hk5
            go_wp2_with fail
            go_roundg (gk - 1)
            case measure => omega
            case rel => exact ⟨k + 1, by omega, by go_num, hg.drewN _, by rw [HL.out]; show -1 ≤ b; omega, by rw [HN1.out, HL.out]⟩
      · obtain rfl : k = n := by omega
        go_wp2_with fail
        go_ret
        refine ⟨?_, hg⟩
        rw [HUP.out, List.drop_of_length_le (by rw [HN.out]; exact Nat.le_refl _)]
        rfl
end Go.Proofs.Ytpjcekhpkipddaa
