/-
  The walks of the document's own answer for pack's numbers (package cashboxref02): Fits, Put, Get, Bytes.
-/
import Derived.Test.YtddignaaggdliaaPackA
import Derived.Test.YtddignaaggdliaaConv
namespace Go.Proofs.Ytddignaaggdliaa
open Go.RowKit

theorem shl_one (k : Nat) (h : k ≤ 6) : wrap64 (2 ^ (8 * k)) = 2 ^ (8 * k) := by
  have hp : (2 : Nat) ^ (8 * k) ≤ 2 ^ 48 := Nat.pow_le_pow_right (by omega) (by omega)
  have h2 : (2 : Int) ^ (8 * k) = ((2 ^ (8 * k) : Nat) : Int) := by simp
  rw [h2]
  generalize 2 ^ (8 * k) = y at *
  exact IntWalk.wrap64_in _ ⟨by omega, by omega⟩

set_option maxHeartbeats 400000 in
theorem refFits_any (n w0 : Int) (w : World) : Calls Try.prog 13 #[.int .i64 n, .int .i64 w0] w fun e w' => e = .returned (.bool (fitsB n w0)) ∧ w = w' := by
  by_cases h : 1 ≤ w0 ∧ w0 ≤ 6 ∧ 0 ≤ n
  · obtain ⟨h1, h2, h3⟩ := h
    obtain ⟨k, rfl⟩ := Int.eq_ofNat_of_zero_le (by omega : 0 ≤ w0)
    have h8 : (0 : Int) ≤ 8 * (k : Int) := by omega
    have Hs := Lib.hid (shl_one k (by omega))
    go_enter Try.func13, Try.ntmps13
    go_wp2
    go_ret
    refine ⟨ret_bool ?_, rfl⟩
    simp only [Hs.out, fitsB, Int.toNat_natCast]
    congr 1
    simp only [eq_iff_iff]
    omega
  · go_enter Try.func13, Try.ntmps13
    go_wp2
    all_goals
      go_ret
      refine ⟨ret_bool ?_, rfl⟩
      have hf : fitsB n w0 = false := by simp only [fitsB, decide_eq_false_iff_not]; omega
      rw [hf]

/-- Two rows of bytes are one? -/
theorem bytes_same (l : List Nat) (n : Nat) (hn : l.length = n) (a b : Option Addr) (cap cap2 : Nat) (w : World) (ha : Rd w a (bys l)) (hb : Rd w b (bys l)) :
    Calls Try.prog 11 #[.slice a n cap, .slice b n cap2] w fun e w' => e = .returned (.bool true) ∧ w = w' := by
  have c1 := run_conv (P := Try.prog) w 22 9 5 Try.underlying22 Try.underlying5 Try.underlying9 a l n cap hn ha
  have c2 := run_conv (P := Try.prog) w 22 9 5 Try.underlying22 Try.underlying5 Try.underlying9 b l n cap2 hn hb
  generalize strN l = S at *
  clear hn ha hb
  go_enter Try.func11, Try.ntmps11
  go_wp2
  go_ret
  exact ⟨ret_bool (by simp), rfl⟩

set_option maxHeartbeats 400000 in
theorem refPut_no (n w0 : Int) (a : Option Addr) (len cap : Nat) (w : World) (h : fitsB n w0 = false) : Calls Try.prog 8 #[.slice a len cap, .int .i64 n, .int .i64 w0] w fun e w' => e = .returned (.tuple #[.slice none 0 0, .int .i64 2]) ∧ w = w' := by
  go_enter Try.func8, Try.ntmps8
  go_wp2_with fail
  refine (refFits_any _ _ _).mono ?_
  rintro e w' ⟨rfl, rfl⟩
  go_wp2_with fail
  go_ret2
  exact ⟨rfl, rfl⟩

theorem and_255 (n : Nat) (h : n < 9223372036854775808) : bits .and .i64 (n : Int) 255 = (n : Int) % 256 := by
  have := and_64 n 255 h (by omega)
  rw [show (255 : Nat) = 2 ^ 8 - 1 by decide, Nat.and_two_pow_sub_one_eq_mod] at this
  simpa using this

set_option maxHeartbeats 1000000 in
theorem refPut_yes (l : List Nat) (len : Nat) (hn : l.length = len) (n k : Nat) (a : Option Addr) (cap : Nat) (w : World) (hrd : Rd w a (bys l)) (h : fitsB n k = true) (hl : len ≤ 100000) :
    Calls Try.prog 8 #[.slice a len cap, .int .i64 n, .int .i64 k] w fun e w' => ∃ v, e = .returned (.tuple #[v, .int .i64 0]) ∧ NewBy w (l ++ digits n k) v w' := by
  obtain ⟨hk1, hk6, _, hnk⟩ := (fitsB_iff _ _).1 h
  have hn63 : n < 9223372036854775808 := by
    have h1 : (2 : Int) ^ (8 * (k : Int).toNat) ≤ 2 ^ 48 := by
      have : (2 : Nat) ^ (8 * (k : Int).toNat) ≤ 2 ^ 48 := Nat.pow_le_pow_right (by omega) (by omega)
      exact_mod_cast this
    omega
  clear hnk
  obtain ⟨i0, hi0, hz0, hz1, hz2⟩ := info_parts info_u8
  have Hrd := Lib.hid hrd
  have Hn := Lib.hid hn
  clear hrd hn
  go_enter Try.func8, Try.ntmps8
  go_wp2_with fail
  refine (refFits_any _ _ _).mono ?_
  rintro e w' ⟨rfl, rfl⟩
  go_wp2_with (at_builtin; refine wpList_append_rd _ rfl (.tmp 14) (.tmp 15) 22 rfl w.heap.size 5 i0 (.int .u8 0) 1 1 Try.underlying22 hi0 hz0 hz1 hz2 rfl (by decide) (.slice none 0 0) 0 [] rfl (World.ownsRow_nil _ _ _ _) a len cap (bys l) rfl Hrd.out ?k3 (bys_one _) ?k4 ?k5 (Nat.le_refl _) ?_)
  case k3 => rw [bys_length]; have := Hn.out; omega
  case k4 => unfold maxLen; omega
  case k5 => omega
  intro v1 w1 hown1 hgr1 _
  obtain ⟨a1, c1, rfl, _⟩ := own_slice hown1
  have hg1 : Grows w w1 := (Grows.refl _).grown hgr1 (by simp [Value.ownBlock])
  have Hown1 := Lib.hid hown1
  clear hown1 hgr1
  go_wp2_with fail
  go_loopg [1, 8, 9] k (fun g t v c wr => ∃ (i : Nat) (a2 : Option Addr) (c2 : Nat), i + g = k ∧ c = .int .i64 i ∧ t = .int .i64 ((n / 2 ^ (8 * i) : Nat) : Int) ∧ v = .slice a2 (len + i) c2 ∧ Grows w wr ∧ wr.ownsRow w.heap.size 5 1 (.slice a2 (len + i) c2) (len + i) (bys (l ++ digits n i)))
  case atStart => exact ⟨0, a1, c1, by omega, rfl, by simp, rfl, hg1, by simpa [digits] using Hown1.out⟩
  case round =>
    obtain ⟨i, a2, c2, hi, rfl, rfl, rfl, hg, hown⟩ := hrel
    have HO := Lib.hid hown
    clear hown
    by_cases hlt : i < k
    · have hlt' : (i : Int) < (k : Int) := by omega
      have hi0' : (0 : Int) ≤ (i : Int) := by omega
      have hnl : n / 2 ^ (8 * i) < 9223372036854775808 := Nat.lt_of_le_of_lt (Nat.div_le_self _ _) hn63
      have hand := and_255 _ hnl
      have HD := Lib.hid (digits_succ n i)
      have HE := Lib.hid (show n / 2 ^ (8 * i) / 256 = n / 2 ^ (8 * (i + 1)) by rw [Nat.div_div_eq_div_mul, Nat.mul_add, Nat.pow_add])
      generalize n / 2 ^ (8 * i) = q at *
      go_wp2_with (at_builtin; refine wpList_append_rd _ rfl (.tmp 22) (.tmp 26) 22 rfl w.heap.size 5 i0 (.int .u8 0) 1 1 Try.underlying22 hi0 hz0 hz1 hz2 rfl (by decide) _ (len + i) _ rfl (HO.out.alloc _) (some ⟨wr.heap.size, 0, none⟩) 1 1 [.int .u8 ((q : Int) % 256)] rfl (rd_new wr #[.int .u8 ((q : Int) % 256)] 5 (0, 0)) rfl ?q1 ?q4 ?q5 ?q6 ?_)
      case q1 => intro u hu; simp at hu; subst hu; rfl
      case q4 => unfold maxLen; omega
      case q5 => omega
      case q6 => have := hg.size; simp; omega
      intro v2 w2 hown2 hgr2 _
      obtain ⟨a3, c3, rfl, _⟩ := own_slice hown2
      have hg2 : Grows w w2 := (hg.alloc _).grown hgr2 (by intro k hk; exact (HO.out.lt k hk).1)
      have Hown2 := Lib.hid hown2
      clear hown2 hgr2
      go_wp2_with fail
      go_roundg (gk - 1)
      case measure => omega
      case rel =>
        refine ⟨i + 1, a3, c3, by omega, by go_num, ?_, by rw [Nat.add_assoc], hg2, ?_⟩
        · rw [← HE.out]; simp
        · rw [HD.out, ← List.append_assoc, bys_append, ← Nat.add_assoc]
          exact Hown2.out
    · obtain rfl : i = k := by omega
      go_wp2_with fail
      go_ret2
      have hle : (l ++ digits n i).length = len + i := by rw [List.length_append, Hn.out, digits_length]
      refine ⟨_, rfl, a2, c2, by rw [hle]; rfl, ?_⟩
      rw [hle]
      exact ⟨HO.out, hg⟩

set_option maxHeartbeats 400000 in
theorem refGet_arg (a : Option Addr) (len cap : Nat) (at_ w0 : Int) (w : World) (h : w0 < 1 ∨ 6 < w0) :
    Calls Try.prog 10 #[.slice a len cap, .int .i64 at_, .int .i64 w0] w fun e w' => e = .returned (.tuple #[.int .i64 0, .int .i64 2]) ∧ w = w' := by
  rcases h with h | h
  · go_enter Try.func10, Try.ntmps10
    go_wp2
    go_ret2
    exact ⟨rfl, rfl⟩
  · have h' : ¬ w0 < 1 := by omega
    go_enter Try.func10, Try.ntmps10
    go_wp2
    go_ret2
    exact ⟨rfl, rfl⟩

set_option maxHeartbeats 400000 in
theorem refGet_code (a : Option Addr) (len cap : Nat) (at_ w0 : Int) (w : World) (h1 : 1 ≤ w0) (h6 : w0 ≤ 6) (h : at_ < 0 ∨ (len : Int) - w0 < at_) (hl : len ≤ 9223372036854775807) :
    Calls Try.prog 10 #[.slice a len cap, .int .i64 at_, .int .i64 w0] w fun e w' => e = .returned (.tuple #[.int .i64 0, .int .i64 40]) ∧ w = w' := by
  rcases h with h | h
  · go_enter Try.func10, Try.ntmps10
    go_wp2
    go_ret2
    exact ⟨rfl, rfl⟩
  · by_cases h' : at_ < 0
    · go_enter Try.func10, Try.ntmps10
      go_wp2
      go_ret2
      exact ⟨rfl, rfl⟩
    · go_enter Try.func10, Try.ntmps10
      go_wp2
      go_ret2
      exact ⟨rfl, rfl⟩


theorem refGet_step (b N j : Nat) (hb : b < 256) (hj : j < 6) (hN : N < 2 ^ (8 * j)) : bits .or .i64 (wrap64 ((N : Int) * 256)) (b : Int) = ((b + 256 * N : Nat) : Int) := by
  have hp : (2 : Nat) ^ (8 * j) ≤ 2 ^ 40 := Nat.pow_le_pow_right (by omega) (by omega)
  rw [IntWalk.wrap64_in _ ⟨by omega, by omega⟩]
  have h1 := or_64 (N * 256) b (by omega) (by omega)
  rw [Nat.or_comm, show N * 256 = 2 ^ 8 * N by omega, or_add b N 8 (by omega)] at h1
  simpa [Int.mul_comm] using h1

theorem drop_cons (l : List Nat) (at_ k j : Nat) (h : j < k) (hl : at_ + k ≤ l.length) : (l.drop (at_ + (k - 1 - j))).take (j + 1) = l[at_ + (k - 1 - j)] :: (l.drop (at_ + (k - j))).take j := by
  rw [List.drop_eq_getElem_cons (by omega), List.take_succ_cons, show at_ + (k - 1 - j) + 1 = at_ + (k - j) by omega]

set_option maxHeartbeats 1000000 in
theorem refGet_num (l : List Nat) (len : Nat) (hn : l.length = len) (a : Option Addr) (cap : Nat) (at_ k : Nat) (w : World) (hb : ∀ x ∈ l, x < 256) (hrd : Rd w a (bys l)) (hk1 : 1 ≤ k) (hk6 : k ≤ 6) (hat : at_ + k ≤ len) (hl : len ≤ 9223372036854775807) :
    Calls Try.prog 10 #[.slice a len cap, .int .i64 at_, .int .i64 k] w fun e w' => e = .returned (.tuple #[.int .i64 (num ((l.drop at_).take k) : Nat), .int .i64 0]) ∧ w = w' := by
  obtain ⟨b, off, rfl, hbw, hc⟩ := hrd.at (by rw [bys_length]; omega)
  have Hb := Lib.hid hb
  have Hn := Lib.hid hn
  have Hc := Lib.hid hc
  clear hb hn hrd hc
  have h1 : ¬ (k : Int) < 1 := by omega
  have h2 : ¬ (6 : Int) < (k : Int) := by omega
  have h3 : ¬ (at_ : Int) < 0 := by omega
  have h4 : ¬ (len : Int) - (k : Int) < (at_ : Int) := by omega
  go_enter Try.func10, Try.ntmps10
  go_wp2_with fail
  go_loopg [8, 9] k (fun g t c wr => ∃ j : Nat, j + g = k ∧ c = .int .i64 ((k : Int) - 1 - (j : Int)) ∧ w = wr ∧ t = .int .i64 (num ((l.drop (at_ + (k - j))).take j) : Nat))
  case atStart => exact ⟨0, by omega, by simp, rfl, by simp [num]⟩
  case round =>
    obtain ⟨j, hj, rfl, rfl, rfl⟩ := hrel
    by_cases hlt : j < k
    · obtain ⟨i, hi⟩ : ∃ i : Nat, i = k - 1 - j := ⟨_, rfl⟩
      have hi' : (k : Int) - 1 - (j : Int) = (i : Int) := by omega
      have hci := Hc.out (at_ + i) (by rw [bys_length]; have := Hn.out; omega)
      rw [bys_at l _ (by have := Hn.out; omega)] at hci
      have hx := Hb.out _ (List.getElem_mem (by have := Hn.out; omega : at_ + i < l.length))
      have HD := Lib.hid (drop_cons l at_ k j hlt (by have := Hn.out; omega))
      have hN : num ((l.drop (at_ + (k - j))).take j) < 2 ^ (8 * j) := by
        have := num_lt ((l.drop (at_ + (k - j))).take j) fun x hx => Hb.out x (List.mem_of_mem_drop (List.mem_of_mem_take hx))
        rwa [show ((l.drop (at_ + (k - j))).take j).length = j by simp; have := Hn.out; omega] at this
      have hst := refGet_step (l[at_ + i]'(by have := Hn.out; omega)) _ j hx (by omega) hN
      have HX : Hid (num ((l.drop (at_ + (k - 1 - j))).take (j + 1)) = (l[at_ + i]'(by have := Hn.out; omega)) + 256 * num ((l.drop (at_ + (k - j))).take j)) := by
        show _ = _
        rw [HD.out]
        subst hi
        rfl
      have Hi := Lib.hid hi
      have HN := Lib.hid hN
      clear hN
      generalize num ((l.drop (at_ + (k - j))).take j) = N at *
      generalize l[at_ + i]'(by have := Hn.out; omega) = x at *
      clear HD hi
      rw [hi']
      have Hi' := Lib.hid hi'
      clear hi'
      have hi0 : (0 : Int) ≤ (i : Int) := by omega
      have hil : (at_ : Int) + (i : Int) < (len : Int) := by have := Hi.out; omega
      go_wp2_with fail
      go_roundg (gk - 1)
      case measure => omega
      case rel =>
        refine ⟨j + 1, by omega, ?_, rfl, ?_⟩
        · have := Hi'.out; congr 1; omega
        · rw [show k - (j + 1) = k - 1 - j by omega, HX.out]
          simp
    · obtain rfl : j = k := by omega
      have hneg : ¬ (0 : Int) ≤ (j : Int) - 1 - (j : Int) := by omega
      go_wp2_with fail
      go_ret2
      exact ⟨by simp, rfl⟩

end Go.Proofs.Ytddignaaggdliaa
