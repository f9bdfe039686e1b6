/-
  SumsOpen returns true for all bytes, bits and places: what is sealed opens, and bits changed within 32 of one another are told.
-/
import Derived.Test.YtgmpeljnekpefaaOpenW
import Derived.Test.YtgmpeljnekpefaaConv
import Derived.BigRegion
namespace Go.Proofs.Ytgmpeljnekpefaa
open Go.RowKit

theorem open_sealed (l : List Nat) (n : Nat) (hn : (l ++ Crc.le4 (Crc.sum l)).length = n) (a : Option Addr) (cap : Nat) (w : World) (hb : ∀ x ∈ l, x < 256) (hrd : Rd w a (bys (l ++ Crc.le4 (Crc.sum l)))) (hcap : n ≤ cap) (hl : n ≤ 1000000) :
    Calls Try.prog 11 #[.slice a n cap] w (OpenYes w l) := by
  have h4 : (Crc.le4 (Crc.sum l)).length = 4 := rfl
  have hlen : (l ++ Crc.le4 (Crc.sum l)).length = l.length + 4 := by rw [List.length_append, h4]
  subst hn
  rw [hlen] at hl hcap ⊢
  refine (open_long _ l.length hlen a cap w ?_ hrd hcap (by omega)).mono fun e w' h => ?_
  · intro x hx
    rcases List.mem_append.1 hx with h | h
    · exact hb x h
    · simp only [Crc.le4, List.mem_cons, List.not_mem_nil, or_false] at h
      omega
  · have h1 : (l ++ Crc.le4 (Crc.sum l)).take ((l ++ Crc.le4 (Crc.sum l)).length - 4) = l := by rw [hlen, Nat.add_sub_cancel, List.take_left']; rfl
    have h2 : (l ++ Crc.le4 (Crc.sum l)).drop ((l ++ Crc.le4 (Crc.sum l)).length - 4) = Crc.le4 (Crc.sum l) := by rw [hlen, Nat.add_sub_cancel, List.drop_left']; rfl
    rw [OpenRes, h1, h2, if_pos rfl] at h
    exact h

theorem le4_lt (s : Nat) : ∀ x ∈ Crc.le4 s, x < 256 := by
  intro x hx
  simp only [Crc.le4, List.mem_cons, List.not_mem_nil, or_false] at hx
  omega

set_option maxHeartbeats 400000 in
theorem lawOpen_long (n : Nat) (a : Option Addr) (cap : Nat) (B at_ : Int) (w : World) (h : 20000 < (n : Int)) :
    Calls Try.prog 4 #[.slice a n cap, .int .u32 B, .int .i64 at_] w fun e w' => e = .returned (.bool true) ∧ Grows w w' := by
  go_enter Try.func4, Try.ntmps4
  go_wp2_with fail
  refine (wakes_any _).mono ?_
  rintro e w1 ⟨rfl, hb1⟩
  go_wp2_with fail
  go_ret
  exact ⟨rfl, hb1⟩

theorem bit_true (b k : Nat) (h : b / 2 ^ k % 2 = 1) : ((b : Int) / 2 ^ k % 2 == 1) = true := by
  have h2 : ((b / 2 ^ k % 2 : Nat) : Int) = 1 := by rw [h]; rfl
  have h3 : (b : Int) / 2 ^ k % 2 = 1 := by simpa using h2
  rw [h3]; rfl
theorem bit_false (b k : Nat) (h : ¬ b / 2 ^ k % 2 = 1) : ((b : Int) / 2 ^ k % 2 == 1) = false := by
  have h1 : b / 2 ^ k % 2 = 0 := by omega
  have h2 : ((b / 2 ^ k % 2 : Nat) : Int) = 0 := by rw [h1]; rfl
  have h3 : (b : Int) / 2 ^ k % 2 = 0 := by simpa using h2
  rw [h3]; rfl
theorem xor_u8 (x j : Nat) (h : x < 256) (hj : j < 8) : bits .xor .u8 (x : Int) (2 ^ j % 256) = ((x ^^^ 2 ^ j : Nat) : Int) := by
  have h8 : 2 ^ j < 2 ^ 8 := Nat.pow_lt_pow_right (by omega) hj
  have h1 := u8_xor_nat x (2 ^ j) h (by omega)
  have h2 : ((2 : Int) ^ j % 256) = ((2 ^ j : Nat) : Int) := by
    have h3 : ((2 ^ j : Nat) : Int) = (2 : Int) ^ j := by simp
    rw [← h3]
    generalize 2 ^ j = y at *
    omega
  rw [h2]
  exact h1
theorem bys_set (L : List Nat) (q v : Nat) : bys (L.set q v) = (bys L).set q (.int .u8 (v : Int)) := by
  simp [bys, List.map_set]
theorem bit_on (b k : Nat) (h : b / 2 ^ k % 2 = 1) : b % 2 ^ (k + 1) = b % 2 ^ k ^^^ 2 ^ k := by
  have h1 := Crc.split_add k (b % 2 ^ k) 1 (Nat.mod_lt _ (Nat.two_pow_pos k))
  rw [Nat.mul_one] at h1
  rw [h1, Nat.mod_pow_succ, h, Nat.mul_one]
theorem bit_off (b k : Nat) (h : ¬ b / 2 ^ k % 2 = 1) : b % 2 ^ (k + 1) = b % 2 ^ k := by
  have h0 : b / 2 ^ k % 2 = 0 := by omega
  rw [Nat.mod_pow_succ, h0, Nat.mul_zero, Nat.add_zero]
theorem tmod_in (a p : Int) (hp : 0 < p) : -p < a.tmod p ∧ a.tmod p < p := by
  have h1 := Int.tmod_lt_of_pos a hp
  have h2 := Int.tmod_lt_of_pos (-a) hp
  rw [Int.neg_tmod] at h2
  omega

set_option maxHeartbeats 1000000 in
theorem lawOpen_any (l : List Nat) (n : Nat) (hn : l.length = n) (a : Option Addr) (cap : Nat) (B : Nat) (at_ : Int) (w : World) (hb : ∀ x ∈ l, x < 256) (hrd : Rd w a (bys l)) (hcap : n ≤ cap) (hnil : a = none → n = 0 ∧ cap = 0) (h1 : (n : Int) ≤ 20000)
    (hB : B < 4294967296) (_ : -9223372036854775808 ≤ at_) (_ : at_ ≤ 9223372036854775807) :
    Calls Try.prog 4 #[.slice a n cap, .int .u32 B, .int .i64 at_] w fun e w' => e = .returned (.bool true) ∧ Grows w w' := by
  have HS := Lib.hid (seal_any l n hn a cap w hb hrd hcap hnil (by omega))
  have Hrd := Lib.hid hrd
  have Hb := Lib.hid hb
  have Hn := Lib.hid hn
  clear hrd hb hn hnil
  have hlen : Hid ((l ++ Crc.le4 (Crc.sum l)).length = n + 4) := by show _ = _; rw [List.length_append, Hn.out]; rfl
  go_enter Try.func4, Try.ntmps4
  go_wp2_with fail
  refine HS.out.mono ?_
  rintro e w1 ⟨g, c, rfl, hown, hb1⟩
  rw [hlen.out] at hown ⊢
  go_wp2_with fail
  have hnc := (own_cap hown).1
  refine (open_sealed l _ hlen.out _ _ _ Hb.out (Rd.own hown) hnc (by omega)).mono ?_
  rintro e w2 ⟨a2, c2, rfl, hown2⟩
  rw [Hn.out] at hown2 ⊢
  have cv1 := run_conv (P := Try.prog) w2 22 9 5 Try.underlying22 Try.underlying5 Try.underlying9 a2 l n c2 Hn.out (Rd.own hown2.1)
  have cv2 := run_conv (P := Try.prog) w2 22 9 5 Try.underlying22 Try.underlying5 Try.underlying9 a l n cap Hn.out ((Hrd.out.grows hb1).grows hown2.2)
  generalize strN l = S at *
  obtain ⟨A, hA, hA8⟩ : ∃ A : Nat, (wrap64 (at_.tmod (8 * (n : Int) + 1) + (8 * (n : Int) + 1))).tmod (8 * (n : Int) + 1) = (A : Int) ∧ A ≤ 8 * n := by
    have h2 : -(8 * (n : Int) + 1) < at_.tmod (8 * (n : Int) + 1) ∧ at_.tmod (8 * (n : Int) + 1) < 8 * (n : Int) + 1 := tmod_in _ _ (by omega)
    generalize at_.tmod (8 * (n : Int) + 1) = r at *
    rw [IntWalk.wrap64_in _ ⟨by omega, by omega⟩]
    refine ⟨((r + (8 * (n : Int) + 1)) % (8 * (n : Int) + 1)).toNat, ?_, ?_⟩
    · rw [Int.tmod_eq_emod_of_nonneg (by omega)]
      have := Int.emod_nonneg (r + (8 * (n : Int) + 1)) (show (8 * (n : Int) + 1) ≠ 0 by omega)
      omega
    · have := Int.emod_lt_of_pos (r + (8 * (n : Int) + 1)) (show 0 < 8 * (n : Int) + 1 by omega)
      omega
  have hO : bits .or .u32 (B : Int) 1 = ((B ||| 1 : Nat) : Int) := u32_or_nat B 1 hB (by omega)
  have hBt : B ||| 1 < 4294967296 := by
    have := Nat.or_lt_two_pow (x := B) (y := 1) (n := 32) (by omega) (by omega)
    omega
  have HB1 : Hid ((B ||| 1) ≠ 0) := by
    intro h
    have := congrArg (fun x => Nat.testBit x 0) h
    simp at this
  generalize B ||| 1 = Bt at *
  have hG := hb1.trans hown2.2
  have Hown := Lib.hid (own_grows hown hown2.2)
  have hgw : w.heap.size ≤ g := (hown.lt g rfl).1
  clear hown hown2
  go_wp2_with fail
  clear hA hO cv1 cv2
  have HL0 : Hid (∀ x ∈ l ++ Crc.le4 (Crc.sum l), x < 256) := by
    intro x hx
    rcases List.mem_append.1 hx with h | h
    · exact Hb.out x h
    · exact le4_lt _ x h
  have Hsealed := Lib.hid (Crc.run_sealed l Hb.out)
  generalize l ++ Crc.le4 (Crc.sum l) = L0 at *
  go_loopg [11] 32 (fun gh i wr => ∃ (k : Nat) (L : List Nat), k + gh = 32 ∧ i = .int .i64 k ∧ Grows w wr ∧ wr.ownsRow w.heap.size 5 1 (.slice (some ⟨g, 0, none⟩) (n + 4) c) (n + 4) (bys L) ∧ L.length = n + 4 ∧ (∀ x ∈ L, x < 256) ∧ Crc.big L = Crc.big L0 ^^^ 2 ^ A * (Bt % 2 ^ k))
  case atStart => exact ⟨0, L0, rfl, rfl, hG, Hown.out, hlen.out, HL0.out, by simp [Nat.mod_one]⟩
  case round =>
    obtain ⟨k, L, hk, rfl, hg, hown, hL, hLb, hbig⟩ := hrel
    have HR := Lib.hid (And.intro hL (And.intro hLb hbig))
    have HW := Lib.hid hown
    by_cases hk32 : k < 32
    · have hk' : (k : Int) < 32 := by omega
      have hk0 : (0 : Int) ≤ (k : Int) := by omega
      have hq : (A + k) / 8 < L.length := by omega
      have hcell := hown.cellAt ((A + k) / 8) (by omega)
      rw [List.getElem?_eq_getElem (by rw [bys_length]; exact hq), bys_at L _ hq] at hcell
      have hfr := hown.frozenAt ((A + k) / 8)
      have hx256 : L[(A + k) / 8] < 256 := hLb _ (List.getElem_mem hq)
      generalize hxx : L[(A + k) / 8] = x at *
      clear hL hLb hbig hown
      have hand : bits .and .u32 ((Bt : Int) / 2 ^ k) 1 = (Bt : Int) / 2 ^ k % 2 := by
        have := and_one (Bt / 2 ^ k) (Nat.lt_of_le_of_lt (Nat.div_le_self _ _) hBt)
        simpa using this
      have hAk0 : (0 : Int) ≤ (A : Int) + (k : Int) := by omega
      have hAk1 : (A : Int) + (k : Int) ≤ 1000000 := by omega
      by_cases hbit : Bt / 2 ^ k % 2 = 1
      · have htest := bit_true Bt k hbit
        have HBit := Lib.hid hbit
        clear hbit
        go_wp2_with fail
        go_region
        go_wp2_with fail
        go_roundg (gk - 1)
        case measure => omega
        case rel =>
          refine ⟨k + 1, L.set ((A + k) / 8) (x ^^^ 2 ^ ((A + k) % 8)), by omega, by go_num, ?_, ?_, ?_, ?_, ?_⟩
          · exact (hg.setCell (p := ⟨g, (A + k) / 8, none⟩) hgw _).drew
          · rw [xor_u8 x _ hx256 (by omega), bys_set]
            exact (HW.out.stored _ _).1
          · rw [List.length_set]; exact HR.out.1
          · intro y hy
            rcases List.mem_or_eq_of_mem_set hy with h | h
            · exact HR.out.2.1 y h
            · rw [h]
              have h8 : 2 ^ ((A + k) % 8) < 2 ^ 8 := Nat.pow_lt_pow_right (by omega) (by omega)
              have := Nat.xor_lt_two_pow (x := x) (y := 2 ^ ((A + k) % 8)) (n := 8) (by omega) h8
              omega
          · rw [← hxx, Crc.big_set L _ _ hq, HR.out.2.2, bit_on Bt k HBit.out, Crc.mul_pow_xor, show 8 * ((A + k) / 8) + (A + k) % 8 = A + k by omega, Nat.pow_add]
            ac_rfl
      · have htest := bit_false Bt k hbit
        have HBit := Lib.hid hbit
        clear hbit
        go_wp2_with fail
        go_roundg (gk - 1)
        case measure => omega
        case rel => exact ⟨k + 1, L, by omega, by go_num, hg, HW.out, HR.out.1, HR.out.2.1, by rw [HR.out.2.2, bit_off Bt k HBit.out]⟩
    · obtain rfl : k = 32 := by omega
      clear hL hLb hbig hown
      have hres := open_long L n HR.out.1 _ c wr HR.out.2.1 (Rd.own HW.out) hnc (by omega)
      have hno : ¬ L.drop (L.length - 4) = Crc.le4 (Crc.sum (L.take (L.length - 4))) := by
        intro h
        have h1 : L = L.take (L.length - 4) ++ Crc.le4 (Crc.sum (L.take (L.length - 4))) := by rw [← h, List.take_append_drop]
        have h2 := Crc.run_sealed (L.take (L.length - 4)) fun y hy => HR.out.2.1 y (List.mem_of_mem_take hy)
        rw [← h1, ← Hsealed.out] at h2
        have h3 : Bt % 2 ^ 32 = Bt := Nat.mod_eq_of_lt (by omega)
        have h4 := HR.out.2.2
        rw [h3] at h4
        exact Crc.told (by rw [HR.out.1, hlen.out]) h4 hBt HB1.out (by rw [hlen.out]; omega) h2
      have HC := Lib.hid (hres.mono fun e w' h => (by rw [OpenRes, if_neg hno] at h; exact h : OpenNo wr e w'))
      clear hres hno
      go_wp2_with fail
      refine HC.out.mono ?_
      rintro e w3 ⟨rfl, hb3⟩
      go_wp2_with fail
      refine (wakes_any _).mono ?_
      rintro e w4 ⟨rfl, hb4⟩
      go_wp2_with fail
      go_ret
      exact ⟨rfl, (hg.trans hb3).trans hb4⟩

theorem lawOpen (l : List Nat) (n : Nat) (hn : l.length = n) (a : Option Addr) (cap : Nat) (B at_ : Int) (w : World) (hb : ∀ x ∈ l, x < 256) (hrd : Rd w a (bys l)) (hcap : n ≤ cap) (hnil : a = none → n = 0 ∧ cap = 0)
    (hB : (Lit.int .u32 B).wf = true) (hat : (Lit.int .i64 at_).wf = true) :
    Calls Try.prog 4 #[.slice a n cap, .int .u32 B, .int .i64 at_] w fun e w' => e = .returned (.bool true) ∧ Grows w w' := by
  simp [Lit.wf, IntKind.min, IntKind.max, IntKind.signed, IntKind.bits] at hB hat
  by_cases h : 20000 < (n : Int)
  · exact lawOpen_long n a cap B at_ w h
  · obtain ⟨b, rfl⟩ := Int.eq_ofNat_of_zero_le hB.1
    exact lawOpen_any l n hn a cap b at_ w hb hrd hcap hnil (by omega) (by omega) hat.1 hat.2

end Go.Proofs.Ytgmpeljnekpefaa
