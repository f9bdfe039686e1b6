/-
  The walks of sums.Seal and sums.Open.
-/
import Derived.Test.YtmcofmidpedkiaaSumsB
import Derived.Test.YtmcofmidpedkiaaPackA
import Derived.Test.YtmcofmidpedkiaaApp
import Derived.Deep.QuietTactic
import Derived.BigQuiet
namespace Go.Proofs.Ytmcofmidpedkiaa
open Go.RowKit

theorem sum_n (l : List Nat) (n : Nat) (hn : l.length = n) (a : Option Addr) (cap : Nat) (w : World) (hb : ∀ x ∈ l, x < 256) (hrd : Rd w a (bys l)) (hl : n ≤ 9223372036854775807) :
    Calls Try.prog 44 #[.slice a n cap] w fun e w' => e = .returned (.int .u32 (Crc.sum l : Nat)) ∧ Grows w w' := by
  subst hn; exact sum_any l a cap w hb hrd hl

/-- The bytes l, in new memory. -/
def NewBytes (w : World) (l : List Nat) (e : Ending) (w' : World) : Prop := ∃ g c, e = .returned (.slice (some ⟨g, 0, none⟩) l.length c) ∧ New w 5 1 l.length (bys l) (.slice (some ⟨g, 0, none⟩) l.length c) w'

theorem le4_cells (s : Nat) (h : s < 4294967296) : bys (Crc.le4 s) = [.int .u8 ((s : Int) % 256), .int .u8 ((s : Int) / 256 % 256), .int .u8 ((s : Int) / 65536 % 256), .int .u8 ((s : Int) / 16777216)] := by
  have : (s : Int) / 16777216 = ((s / 16777216 % 256 : Nat) : Int) := by omega
  rw [this]
  rfl

set_option maxHeartbeats 1000000 in
theorem seal_any (l : List Nat) (n : Nat) (hn : l.length = n) (a : Option Addr) (cap : Nat) (w : World) (hb : ∀ x ∈ l, x < 256) (hrd : Rd w a (bys l)) (hcap : n ≤ cap) (hnil : a = none → n = 0 ∧ cap = 0) (hl : n ≤ 1000000) :
    Calls Try.prog 37 #[.slice a n cap] w (NewBytes w (l ++ Crc.le4 (Crc.sum l))) := by
  have HS := Lib.hid (sum_n l n hn a cap w hb hrd (by omega))
  have Hrd := Lib.hid hrd
  have Hn := Lib.hid hn
  have Hnil := Lib.hid hnil
  have hlt : Crc.sum l < 4294967296 := Crc.lt_inv _
  obtain ⟨i0, hi0, hz0, hz1, hz2⟩ := info_parts info_u8
  clear hrd hn hb hnil
  have hnc : (n : Int) ≤ (cap : Int) := by omega
  go_enter Try.func37, Try.ntmps37
  go_wp2_with fail
  refine HS.out.mono ?_
  rintro e w1 ⟨rfl, hb1⟩
  generalize Crc.sum l = s at *
  have HL := Lib.hid (le4_cells s hlt)
  go_wp2_with (at_builtin; refine wpList_append_grows _ rfl (.tmp 12) (.tmp 24) 28 rfl 5 i0 (.int .u8 0) 1 1 Try.underlying28 hi0 hz0 hz1 hz2 rfl (by decide) a n n (bys l) rfl ?h1 ?h2 ?h3 ⟨w1.heap.size, 0, none⟩ 4 4 (bys (Crc.le4 s)) rfl ?h4 ?h5 (bys_one _) (by omega) ?h6 ?h7 ?_)
  case h1 => intro h; exact ⟨(Hnil.out h).1, (Hnil.out h).1⟩
  case h2 => rw [bys_length]; have := Hn.out; omega
  case h3 => exact rd_adds (Hrd.out.grows (hb1.alloc _))
  case h4 => rfl
  case h5 => rw [HL.out]; exact rd_adds (rd_new w1 _ _ _) _ rfl
  case h6 => unfold maxLen; omega
  case h7 => omega
  intro v' w2 hown hgr
  obtain ⟨g, c, rfl, hge, _⟩ := own_form hown (by omega)
  go_wp2_with fail
  go_ret
  have hle : (l ++ Crc.le4 s).length = n + 4 := by rw [List.length_append, Hn.out]; rfl
  refine ⟨g, c, ?_, ?_⟩
  · rw [hle]; rfl
  · rw [hle, bys_append]
    exact ⟨own_lower hown (by have := hb1.size; simp; omega), (hb1.alloc _).grown hgr (by simp)⟩

theorem le4_at (s : Nat) : ∀ i, i < 4 → (Crc.le4 s)[i]? = some (s / 2 ^ (8 * i) % 256) := by
  intro i hi
  match i, hi with
  | 0, _ => simp [Crc.le4]
  | 1, _ => simp [Crc.le4]
  | 2, _ => simp [Crc.le4]
  | 3, _ => simp [Crc.le4]

end Go.Proofs.Ytmcofmidpedkiaa
