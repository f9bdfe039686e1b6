/-
  The walks of package sums: a run of bytes, Sum, Join.
-/
import Derived.Test.YtmcofmidpedkiaaSumsA
namespace Go.Proofs.Ytmcofmidpedkiaa
open Go.RowKit

theorem inv_bits (R : Nat) (h : R < 4294967296) : bits .xor .u32 IntKind.u32.max (R : Int) = (Crc.inv R : Nat) := by
  have h1 := u32_xor_nat 4294967295 R (by omega) h
  have h2 : 4294967295 ^^^ R = Crc.inv R := by
    rw [← Crc.xor_inv h, Nat.xor_comm R, Nat.xor_assoc, Nat.xor_self, Nat.xor_zero]
  rw [h2] at h1
  exact h1
theorem nib_bits (X : Nat) (h : X < 4294967296) : bits .xor .u32 (Crc.half (X % 16) : Nat) ((X : Int) / 16) = (Crc.nib X : Nat) := by
  have := u32_xor_nat (Crc.half (X % 16)) (X / 16) (Crc.lt_half (by omega)) (by omega)
  exact this

theorem run_snoc (r : Nat) (l : List Nat) (k : Nat) (h : k < l.length) : Crc.run r (l.take (k + 1)) = Crc.byt (Crc.run r (l.take k)) l[k] := by
  rw [List.take_succ_eq_append_getElem h, Crc.run_append]; rfl

set_option maxHeartbeats 1000000 in
theorem run_any (r : Nat) (l : List Nat) (a : Option Addr) (cap : Nat) (w : World) (hr : r < 4294967296) (hb : ∀ x ∈ l, x < 256) (hrd : Rd w a (bys l)) (hl : l.length ≤ 9223372036854775807) :
    Calls Try.prog 45 #[.int .u32 r, .slice a l.length cap] w fun e w' => e = .returned (.int .u32 (Crc.run r l : Nat)) ∧ Grows w w' := by
  have Hrd := Lib.hid hrd
  clear hrd
  have Hb := Lib.hid hb
  clear hb
  go_enter Try.func45, Try.ntmps45
  go_wp2_with fail
  refine (halves_any _).mono ?_
  rintro e w' ⟨rfl, rfl⟩
  rw [tbl_lit]
  go_wp2_with fail
  rw [← tbl_lit]
  go_loopg [0, 6] l.length (fun g t c wr => ∃ k : Nat, k + g = l.length ∧ c = .int .i64 k ∧ wr = ((w.alloc (.cells (tbl 16) 97)).alloc (.cells (tbl 16) 97)).alloc (.cells (tbl 16) 97) ∧ t = .int .u32 (Crc.run r (l.take k) : Nat))
  case atStart => exact ⟨0, by omega, rfl, rfl, rfl⟩
  case round =>
    obtain ⟨k, hk, rfl, rfl, rfl⟩ := hrel
    by_cases hlt : k < l.length
    · obtain ⟨b, off, rfl, hbw, hc⟩ := Hrd.out.at (by rw [bys_length]; omega)
      have hck := hc k (by rw [bys_length]; omega)
      rw [bys_at l k hlt] at hck
      have hbk : l[k] < 256 := Hb.out _ (List.getElem_mem hlt)
      have hrk : Crc.run r (l.take k) < 4294967296 := Crc.lt_run _ hr fun x hx => Hb.out x (List.mem_of_mem_take hx)
      have HS := Lib.hid (run_snoc r l k hlt)
      generalize hR : Crc.run r (l.take k) = R at *
      generalize hB : l[k] = B at *
      clear hc hR hB
      have hx0 := Crc.lt_xor hrk (by omega : B < 4294967296)
      have hxor : bits .xor .u32 (R : Int) (B : Int) = ((R ^^^ B : Nat) : Int) := u32_xor_nat R B hrk (by omega)
      have HX := Lib.hid (show Crc.byt R B = Crc.nib (Crc.nib (R ^^^ B)) from rfl)
      generalize hX : R ^^^ B = X at *
      clear hX
      have ha1 : bits .and .u32 (X : Int) 15 = (X : Int) % 16 := by rw [and_15 X hx0]; rfl
      have ht1 := tbl_full (X % 16) (by omega)
      have hn1 := nib_bits X hx0
      have hy0 := Crc.lt_nib hx0
      have hp1 : (0 : Int) ≤ (X : Int) % 16 := by omega
      have hp2 : (X : Int) % 16 < 16 := by omega
      generalize hY : Crc.nib X = Y at *
      clear hY
      have ha2 : bits .and .u32 (Y : Int) 15 = (Y : Int) % 16 := by rw [and_15 Y hy0]; rfl
      have ht2 := tbl_full (Y % 16) (by omega)
      have hn2 := nib_bits Y hy0
      have hq1 : (0 : Int) ≤ (Y : Int) % 16 := by omega
      have hq2 : (Y : Int) % 16 < 16 := by omega
      generalize hZ : Crc.nib Y = Z at *
      clear hZ
      have hk0 : (0 : Int) ≤ (k : Int) := by omega
      have hlt' : (k : Int) < (l.length : Int) := by omega
      have hb1 : b < w.heap.size + 1 := by omega
      have hb2 : b < w.heap.size + 1 + 1 := by omega
      go_wp2_with fail
      go_roundg (gk - 1)
      case measure => omega
      case rel => exact ⟨k + 1, by omega, by go_num, rfl, by rw [HS.out, HX.out]⟩
    · obtain rfl : k = l.length := by omega
      go_wp2_with fail
      go_ret
      refine ⟨ret_int (by simp), ?_⟩
      exact (((Grows.refl _).alloc _).alloc _).alloc _


set_option maxHeartbeats 400000 in
theorem sum_any (l : List Nat) (a : Option Addr) (cap : Nat) (w : World) (hb : ∀ x ∈ l, x < 256) (hrd : Rd w a (bys l)) (hl : l.length ≤ 9223372036854775807) :
    Calls Try.prog 44 #[.slice a l.length cap] w fun e w' => e = .returned (.int .u32 (Crc.sum l : Nat)) ∧ Grows w w' := by
  have hlt := Crc.lt_run l (r := 4294967295) (by omega) hb
  have hc := run_any 4294967295 l a cap w (by omega) hb hrd hl
  have HC := Lib.hid hc
  clear hc hb hrd
  have HI := Lib.hid (show Crc.sum l = Crc.inv (Crc.run 4294967295 l) from rfl)
  generalize Crc.run 4294967295 l = R at *
  go_enter Try.func44, Try.ntmps44
  go_wp2_with fail
  refine HC.out.mono ?_
  rintro e w' ⟨rfl, hg⟩
  go_wp2_with fail
  go_ret
  refine ⟨ret_int ?_, hg⟩
  rw [HI.out]
  exact inv_bits R hlt

end Go.Proofs.Ytmcofmidpedkiaa
