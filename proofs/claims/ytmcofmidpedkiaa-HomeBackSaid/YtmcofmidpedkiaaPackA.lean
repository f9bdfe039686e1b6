/-
  The walks of package pack: Fits, behind, Put, Get.
-/
import Derived.Test.YtmcofmidpedkiaaPackM
namespace Go.Proofs.Ytmcofmidpedkiaa
open Go.RowKit

theorem info_u8 : (Try.prog.info? 5).map (fun i => (i.zero, i.size, i.bytes)) = some (some (.int .u8 0), 1, 1) := by kernel_rfl
theorem ret_bool {a b : Bool} (h : a = b) : Ending.returned (.bool a) = .returned (.bool b) := by rw [h]

theorem shr_zero (n : Int) (k : Nat) (h : 0 ≤ n) : (n / 2 ^ k == 0) = decide (n < 2 ^ k) := by
  have hp : (0 : Int) < 2 ^ k := Int.pow_pos (by decide)
  rw [Bool.eq_iff_iff]
  simp only [beq_iff_eq, decide_eq_true_eq]
  constructor
  · intro h1
    have h2 := Int.emod_add_mul_ediv n (2 ^ k)
    have h3 := Int.emod_lt_of_pos n hp
    rw [h1, Int.mul_zero] at h2
    omega
  · intro h1
    exact Int.ediv_eq_zero_of_lt h h1

set_option maxHeartbeats 400000 in
theorem fits_any (n w0 : Int) (w : World) : Calls Try.prog 41 #[.int .i64 n, .int .i64 w0] w fun e w' => e = .returned (.bool (fitsB n w0)) ∧ w = w' := by
  by_cases h : 1 ≤ w0 ∧ w0 ≤ 6 ∧ 0 ≤ n
  · obtain ⟨h1, h2, h3⟩ := h
    obtain ⟨k, rfl⟩ := Int.eq_ofNat_of_zero_le (by omega : 0 ≤ w0)
    have h8 : (0 : Int) ≤ 8 * (k : Int) := by omega
    go_enter Try.func41, Try.ntmps41
    go_wp2
    go_ret
    refine ⟨ret_bool ?_, rfl⟩
    rw [shr_zero n (8 * k) h3]
    simp only [fitsB, Int.toNat_natCast]
    congr 1
    simp only [eq_iff_iff]
    omega
  · go_enter Try.func41, Try.ntmps41
    go_wp2
    all_goals
      go_ret
      refine ⟨ret_bool ?_, rfl⟩
      have hf : fitsB n w0 = false := by simp only [fitsB, decide_eq_false_iff_not]; omega
      rw [hf]


/-- The bytes l, in new memory, as a value. -/
def NewBy (w : World) (l : List Nat) (v : Value) (w' : World) : Prop := ∃ a c, v = .slice a l.length c ∧ New w 5 1 l.length (bys l) (.slice a l.length c) w'

set_option maxHeartbeats 1000000 in
theorem behind_any (l m : List Nat) (n k : Nat) (hn : l.length = n) (hk : m.length = k) (a b : Option Addr) (cap cap2 : Nat) (w : World) (hrd : Rd w a (bys l)) (hrm : Rd w b (bys m)) (hl : n + k ≤ 1000000) :
    Calls Try.prog 42 #[.slice a n cap, .slice b k cap2] w fun e w' => ∃ v, e = .returned v ∧ NewBy w (l ++ m) v w' := by
  obtain ⟨i0, hi0, hz0, hz1, hz2⟩ := info_parts info_u8
  have Hrd := Lib.hid hrd
  have Hrm := Lib.hid hrm
  have Hn := Lib.hid hn
  have Hk := Lib.hid hk
  clear hrd hrm hn hk
  go_enter Try.func42, Try.ntmps42
  go_wp2_with (at_make; refine wpList_make_own _ rfl _ _ 28 rfl w.heap.size 5 i0 _ 1 Try.underlying28 hi0 hz0 hz1 _ _ _ (n + k) rfl rfl (by omega) ?h1 ?h2 (Nat.le_refl _) ?_)
  case h1 => rw [hz2]; omega
  case h2 => unfold maxLen; omega
  intro w1 hown1 hgr1
  have hg1 : Grows w w1 := (Grows.refl _).grown hgr1 (by simp)
  have Hown1 := Lib.hid hown1
  clear hown1
  go_wp2_with (at_builtin; refine wpList_append_rd _ rfl (.tmp 12) (.tmp 13) 28 rfl w.heap.size 5 i0 (.int .u8 0) 1 1 Try.underlying28 hi0 hz0 hz1 hz2 rfl (by decide) _ 0 [] rfl Hown1.out a n cap (bys l) rfl (Hrd.out.grows hg1) ?k3 (bys_one _) ?k4 ?k5 hg1.size ?_)
  case k3 => rw [bys_length]; have := Hn.out; omega
  case k4 => unfold maxLen; omega
  case k5 => omega
  intro v2 w2 hown2 hgr2 hat2
  obtain ⟨a2, c2, rfl, _⟩ := own_slice hown2
  have hg2 : Grows w w2 := hg1.grown hgr2 (by intro k hk; exact (Hown1.out.lt k hk).1)
  have Hown2 := Lib.hid hown2
  clear hown2 hgr1 hgr2 hat2
  go_wp2_with (at_builtin; refine wpList_append_rd _ rfl (.tmp 15) (.tmp 16) 28 rfl w.heap.size 5 i0 (.int .u8 0) 1 1 Try.underlying28 hi0 hz0 hz1 hz2 rfl (by decide) _ n _ rfl Hown2.out b k cap2 (bys m) rfl (Hrm.out.grows hg2) ?q3 (bys_one _) ?q4 ?q5 hg2.size ?_)
  case q3 => rw [bys_length]; have := Hk.out; omega
  case q4 => unfold maxLen; omega
  case q5 => omega
  intro v3 w3 hown3 hgr3 hat3
  obtain ⟨a3, c3, rfl, _⟩ := own_slice hown3
  have hg3 : Grows w w3 := hg2.grown hgr3 (by intro k hk; exact (Hown2.out.lt k hk).1)
  go_wp2_with fail
  go_ret
  have hle : (l ++ m).length = n + k := by rw [List.length_append, Hn.out, Hk.out]
  refine ⟨_, rfl, a3, c3, ?_, ?_⟩
  · rw [hle]; rfl
  · rw [hle, bys_append]
    exact ⟨hown3, hg3⟩

/-- The digits' array, its first i made. -/
def dgt (n i j : Nat) : Value := .int .u8 ((if j < i then n / 2 ^ (8 * j) % 256 else 0 : Nat) : Int)
def dgs (n i : Nat) : Array Value := #[dgt n i 0, dgt n i 1, dgt n i 2, dgt n i 3, dgt n i 4, dgt n i 5]
theorem dgs_at (n i j : Nat) (hj : j < 6) : (dgs n i)[j]? = some (dgt n i j) := by
  match j, hj with
  | 0, _ => rfl
  | 1, _ => rfl
  | 2, _ => rfl
  | 3, _ => rfl
  | 4, _ => rfl
  | 5, _ => rfl
  | n + 6, h => exact absurd h (by omega)
theorem dgs_succ (n i : Nat) (hi : i < 6) : (dgs n i).setIfInBounds i (.int .u8 ((n / 2 ^ (8 * i) % 256 : Nat) : Int)) = dgs n (i + 1) := by
  apply Array.ext_getElem?
  intro j
  have hsz : ∀ k, (dgs n k).size = 6 := fun _ => rfl
  by_cases hj : j < 6
  · rw [dgs_at _ _ _ hj, Array.getElem?_setIfInBounds, hsz, dgs_at _ _ _ hj]
    by_cases hij : i = j
    · subst hij; simp [hi, dgt]
    · have : (j < i + 1) ↔ (j < i) := by omega
      simp [hij, this, dgt]
  · rw [Array.getElem?_eq_none (by simp [hsz]; omega), Array.getElem?_eq_none (by simp [hsz]; omega)]
theorem dgs_rd (w : World) (n k : Nat) (t : TypeId) (hk : k ≤ 6) : Rd (w.alloc (.cells (dgs n k) t)) (some ⟨w.heap.size, 0, none⟩) (bys (digits n k)) := by
  refine .inr ⟨w.heap.size, 0, rfl, by simp, fun i v hv => ?_⟩
  have hi : i < k := by
    rcases Nat.lt_or_ge i k with h | h
    · exact h
    · rw [List.getElem?_eq_none (by rw [bys_length, digits_length]; exact h)] at hv; cases hv
  rw [Nat.zero_add, (At.new w t _).cell, dgs_at _ _ _ (by omega), ← hv]
  simp only [bys, List.getElem?_map, digits_at n k i hi, dgt, hi]
  rfl

set_option maxHeartbeats 400000 in
theorem put_no (n w0 : Int) (a : Option Addr) (len cap : Nat) (w : World) (h : fitsB n w0 = false) : Calls Try.prog 34 #[.slice a len cap, .int .i64 n, .int .i64 w0] w fun e w' => e = .returned (.tuple #[.slice none 0 0, .int .i64 2]) ∧ w = w' := by
  go_enter Try.func34, Try.ntmps34
  go_wp2_with fail
  refine (fits_any _ _ _).mono ?_
  rintro e w' ⟨rfl, rfl⟩
  go_wp2_with fail
  go_ret2
  exact ⟨rfl, rfl⟩

set_option maxHeartbeats 1000000 in
theorem put_yes (l : List Nat) (len : Nat) (hn : l.length = len) (n k : Nat) (a : Option Addr) (cap : Nat) (w : World) (hrd : Rd w a (bys l)) (h : fitsB n k = true) (hl : len ≤ 100000) :
    Calls Try.prog 34 #[.slice a len cap, .int .i64 n, .int .i64 k] w fun e w' => ∃ v, e = .returned (.tuple #[v, .int .i64 0]) ∧ NewBy w (l ++ digits n k) v w' := by
  obtain ⟨hk1, hk6, _, hnk⟩ := (fitsB_iff _ _).1 h
  have hn63 : (n : Int) < 9223372036854775808 := by
    have h1 : (2 : Int) ^ (8 * (k : Int).toNat) ≤ 2 ^ 48 := by
      have : (2 : Nat) ^ (8 * (k : Int).toNat) ≤ 2 ^ 48 := Nat.pow_le_pow_right (by omega) (by omega)
      exact_mod_cast this
    omega
  clear hnk
  have Hrd := Lib.hid hrd
  have Hn := Lib.hid hn
  clear hrd hn
  go_enter Try.func34, Try.ntmps34
  go_wp2_with fail
  refine (fits_any _ _ _).mono ?_
  rintro e w' ⟨rfl, rfl⟩
  go_wp2_with fail
  go_loopg [15] k (fun g t wr => ∃ i : Nat, i + g = k ∧ t = .int .i64 i ∧ wr = w.alloc (.cells (dgs n i) 89))
  case atStart => exact ⟨0, by omega, rfl, rfl⟩
  case round =>
    obtain ⟨i, hi, rfl, rfl⟩ := hrel
    by_cases hlt : i < k
    · have hlt' : (i : Int) < (k : Int) := by omega
      have hi0 : (0 : Int) ≤ (i : Int) := by omega
      have hti := dgs_at n i i (by omega)
      have Hts := Lib.hid (dgs_succ n i (by omega))
      go_wp2_with fail
      go_roundg (gk - 1)
      case measure => omega
      case rel =>
        refine ⟨i + 1, by omega, by go_num, ?_⟩
        rw [← Hts.out]
        simp
    · obtain rfl : i = k := by omega
      have hrm := dgs_rd w n i 89 (by omega)
      have Hrm := Lib.hid hrm
      clear hrm
      go_wp2_with fail
      refine (behind_any l (digits n i) len i Hn.out (digits_length n i) _ _ _ _ _ (Hrd.out.grows ((Grows.refl _).alloc _)) Hrm.out (by omega)).mono ?_
      rintro e w2 ⟨v, rfl, a2, c2, hv, hown2⟩
      subst hv
      go_wp2_with fail
      go_ret2
      refine ⟨_, rfl, a2, c2, by simp, own_lower hown2.1 (by simp), ((Grows.refl _).alloc _).trans hown2.2⟩


/-- What Get answers: the number, the error. -/
def getF (l : List Nat) (at_ w0 : Int) : Int × Int :=
  if w0 < 1 ∨ 6 < w0 then (0, 2) else if at_ < 0 ∨ (l.length : Int) - w0 < at_ then (0, 40) else (((num ((l.drop at_.toNat).take w0.toNat) : Nat) : Int), 0)
def getV (r : Int × Int) : Value := .tuple #[.int .i64 r.1, .int .i64 r.2]
theorem getF_arg (l : List Nat) (at_ w0 : Int) (h : w0 < 1 ∨ 6 < w0) : getF l at_ w0 = (0, 2) := by rw [getF, if_pos h]
theorem getF_code (l : List Nat) (at_ w0 : Int) (h : ¬ (w0 < 1 ∨ 6 < w0)) (h2 : at_ < 0 ∨ (l.length : Int) - w0 < at_) : getF l at_ w0 = (0, 40) := by rw [getF, if_neg h, if_pos h2]
theorem getF_num (l : List Nat) (at_ w0 : Nat) (h1 : 1 ≤ w0) (h6 : w0 ≤ 6) (h2 : at_ + w0 ≤ l.length) : getF l at_ w0 = (((num ((l.drop at_).take w0) : Nat) : Int), 0) := by
  rw [getF, if_neg (by omega), if_neg (by omega)]; simp

set_option maxHeartbeats 400000 in
theorem get_arg (a : Option Addr) (len cap : Nat) (at_ w0 : Int) (w : World) (h : w0 < 1 ∨ 6 < w0) :
    Calls Try.prog 40 #[.slice a len cap, .int .i64 at_, .int .i64 w0] w fun e w' => e = .returned (.tuple #[.int .i64 0, .int .i64 2]) ∧ w = w' := by
  rcases h with h | h
  · go_enter Try.func40, Try.ntmps40
    go_wp2
    go_ret2
    exact ⟨rfl, rfl⟩
  · have h' : ¬ w0 < 1 := by omega
    go_enter Try.func40, Try.ntmps40
    go_wp2
    go_ret2
    exact ⟨rfl, rfl⟩

set_option maxHeartbeats 400000 in
theorem get_code (a : Option Addr) (len cap : Nat) (at_ w0 : Int) (w : World) (h1 : 1 ≤ w0) (h6 : w0 ≤ 6) (h : at_ < 0 ∨ (len : Int) - w0 < at_) (hl : len ≤ 9223372036854775807) :
    Calls Try.prog 40 #[.slice a len cap, .int .i64 at_, .int .i64 w0] w fun e w' => e = .returned (.tuple #[.int .i64 0, .int .i64 40]) ∧ w = w' := by
  rcases h with h | h
  · go_enter Try.func40, Try.ntmps40
    go_wp2
    go_ret2
    exact ⟨rfl, rfl⟩
  · by_cases h' : at_ < 0
    · go_enter Try.func40, Try.ntmps40
      go_wp2
      go_ret2
      exact ⟨rfl, rfl⟩
    · go_enter Try.func40, Try.ntmps40
      go_wp2
      go_ret2
      exact ⟨rfl, rfl⟩

theorem shl_in (x i : Nat) (h : x < 256) (hi : i < 6) : wrap64 ((x : Int) * 2 ^ (8 * i)) = (x : Int) * 2 ^ (8 * i) := by
  have hp : (2 : Nat) ^ (8 * i) ≤ 2 ^ 40 := Nat.pow_le_pow_right (by omega) (by omega)
  have h1 : x * 2 ^ (8 * i) ≤ 255 * 2 ^ 40 := Nat.mul_le_mul (by omega) hp
  have h2 : (x : Int) * 2 ^ (8 * i) = ((x * 2 ^ (8 * i) : Nat) : Int) := by simp
  rw [h2]
  exact IntWalk.wrap64_in _ ⟨by omega, by omega⟩
theorem get_step (l : List Nat) (at_ i : Nat) (hb : ∀ x ∈ l, x < 256) (hi : i < 6) (h : at_ + i < l.length) :
    bits .or .i64 ((num ((l.drop at_).take i) : Nat) : Int) ((l[at_ + i] : Int) * 2 ^ (8 * i)) = ((num ((l.drop at_).take (i + 1)) : Nat) : Int) := by
  have hx := hb _ (List.getElem_mem h)
  have hlen : ((l.drop at_).take i).length = i := by simp; omega
  have hm : num ((l.drop at_).take i) < 2 ^ (8 * i) := by
    have := num_lt ((l.drop at_).take i) fun x hx => hb x (List.mem_of_mem_drop (List.mem_of_mem_take hx))
    rwa [hlen] at this
  have hp : (2 : Nat) ^ (8 * i) ≤ 2 ^ 40 := Nat.pow_le_pow_right (by omega) (by omega)
  have hpp : 0 < (2 : Nat) ^ (8 * i) := Nat.two_pow_pos _
  have hmul : 2 ^ (8 * i) * l[at_ + i] < 9223372036854775808 := by
    have : 2 ^ (8 * i) * l[at_ + i] ≤ 2 ^ 40 * 255 := Nat.mul_le_mul hp (by omega)
    omega
  have h1 := or_64 (num ((l.drop at_).take i)) (2 ^ (8 * i) * l[at_ + i]) (by omega) hmul
  rw [or_add _ _ _ hm] at h1
  have h2 : num ((l.drop at_).take (i + 1)) = num ((l.drop at_).take i) + 2 ^ (8 * i) * l[at_ + i] := by
    rw [take_snoc (l.drop at_) i (by simp; omega), num_append, hlen]
    simp [num]
  rw [h2, ← h1]
  congr 1
  simp [Int.mul_comm]

set_option maxHeartbeats 1000000 in
theorem get_num (l : List Nat) (len : Nat) (hn : l.length = len) (a : Option Addr) (cap : Nat) (at_ k : Nat) (w : World) (hb : ∀ x ∈ l, x < 256) (hrd : Rd w a (bys l)) (hk1 : 1 ≤ k) (hk6 : k ≤ 6) (hat : at_ + k ≤ len) (hl : len ≤ 9223372036854775807) :
    Calls Try.prog 40 #[.slice a len cap, .int .i64 at_, .int .i64 k] w fun e w' => e = .returned (.tuple #[.int .i64 (num ((l.drop at_).take k) : Nat), .int .i64 0]) ∧ w = w' := by
  obtain ⟨b, off, rfl, hbw, hc⟩ := hrd.at (by rw [bys_length]; omega)
  have Hb := Lib.hid hb
  have Hn := Lib.hid hn
  have Hc := Lib.hid hc
  clear hb hn hrd hc
  have h1 : ¬ (k : Int) < 1 := by omega
  have h2 : ¬ (6 : Int) < (k : Int) := by omega
  have h3 : ¬ (at_ : Int) < 0 := by omega
  have h4 : ¬ (len : Int) - (k : Int) < (at_ : Int) := by omega
  go_enter Try.func40, Try.ntmps40
  go_wp2_with fail
  go_loopg [8, 27] k (fun g t c wr => ∃ i : Nat, i + g = k ∧ c = .int .i64 i ∧ w = wr ∧ t = .int .i64 (num ((l.drop at_).take i) : Nat))
  case atStart => exact ⟨0, by omega, rfl, rfl, rfl⟩
  case round =>
    obtain ⟨i, hi, rfl, rfl, rfl⟩ := hrel
    by_cases hlt : i < k
    · have hlt' : (i : Int) < (k : Int) := by omega
      have hi0 : (0 : Int) ≤ (i : Int) := by omega
      have hci := Hc.out (at_ + i) (by rw [bys_length]; have := Hn.out; omega)
      rw [bys_at l _ (by have := Hn.out; omega)] at hci
      have hst := get_step l at_ i Hb.out (by omega) (by have := Hn.out; omega)
      have hx := Hb.out _ (List.getElem_mem (by have := Hn.out; omega : at_ + i < l.length))
      generalize l[at_ + i]'(by have := Hn.out; omega) = x at *
      have hwr := shl_in x i hx (by omega)
      have Hwr := Lib.hid hwr
      clear hwr
      go_wp2_with fail
      go_roundg (gk - 1)
      case measure => omega
      case rel =>
        refine ⟨i + 1, by omega, by go_num, rfl, ?_⟩
        rw [Hwr.out, hst]
    · obtain rfl : i = k := by omega
      go_wp2_with fail
      go_ret2
      exact ⟨rfl, rfl⟩

end Go.Proofs.Ytmcofmidpedkiaa
