/-
  The walk of sums.Open.
-/
import Derived.Test.YtmcofmidpedkiaaSeal
namespace Go.Proofs.Ytmcofmidpedkiaa
open Go.RowKit

/-- Nothing is opened. -/
def OpenNo (w : World) (e : Ending) (w' : World) : Prop := e = .returned (.tuple #[.slice none 0 0, .bool false]) ∧ Grows w w'
/-- The bytes l are opened, in new memory. -/
def OpenYes (w : World) (l : List Nat) (e : Ending) (w' : World) : Prop := ∃ a c, e = .returned (.tuple #[.slice a l.length c, .bool true]) ∧ New w 5 1 l.length (bys l) (.slice a l.length c) w'
/-- What Open answers. -/
def OpenRes (w : World) (l : List Nat) (e : Ending) (w' : World) : Prop :=
  if l.drop (l.length - 4) = Crc.le4 (Crc.sum (l.take (l.length - 4))) then OpenYes w (l.take (l.length - 4)) e w' else OpenNo w e w'

set_option maxHeartbeats 400000 in
theorem open_short (n : Nat) (h : n < 4) (a : Option Addr) (cap : Nat) (w : World) : Calls Try.prog 38 #[.slice a n cap] w (OpenNo w) := by
  have h1 : (n : Int) - 4 < 0 := by omega
  have h2 : (0 : Int) ≤ n := by omega
  go_enter Try.func38, Try.ntmps38
  go_wp2
  go_ret2
  exact ⟨rfl, Grows.refl _⟩

set_option maxRecDepth 100000 in
set_option maxHeartbeats 1000000 in
theorem open_long (l : List Nat) (n : Nat) (hn : l.length = n + 4) (a : Option Addr) (cap : Nat) (w : World) (hb : ∀ x ∈ l, x < 256) (hrd : Rd w a (bys l)) (hcap : n + 4 ≤ cap) (hl : n ≤ 1000000) :
    Calls Try.prog 38 #[.slice a (n + 4 : Nat) cap] w (OpenRes w l) := by
  have HRT : Hid (Rd w a (bys (l.take n))) := by
    have := hrd.cut 0 n cap (by omega)
    rw [← bys_cut] at this
    have h0 : cutAddr a cap 0 = a := by
      unfold cutAddr
      split
      · rfl
      · cases a <;> rfl
    rw [h0] at this
    exact (by simpa using this : Rd w a (bys (l.take n)))
  have HS := Lib.hid (sum_n (l.take n) n (by simp; omega) a n w (fun x hx => hb x (List.mem_of_mem_take hx)) HRT.out (by omega))
  have Hrd := Lib.hid hrd
  have Hn := Lib.hid hn
  have Hb := Lib.hid hb
  have hlt : Crc.sum (l.take n) < 4294967296 := Crc.lt_inv _
  obtain ⟨i0, hi0, hz0, hz1, hz2⟩ := info_parts info_u8
  clear hrd hn hb
  have hnc : (n : Int) ≤ (cap : Int) := by omega
  have hn0 : (0 : Int) ≤ (n : Int) := by omega
  go_enter Try.func38, Try.ntmps38
  go_wp2_with fail
  refine HS.out.mono ?_
  rintro e w1 ⟨rfl, hb1⟩
  generalize hs : Crc.sum (l.take n) = s at *
  have HE := Lib.hid hs
  clear hs
  go_wp2_with fail
  go_loopg [7, 19] 4 (fun g t c wr => ∃ k : Nat, k + g = 4 ∧ c = .int .i64 k ∧ Grows w wr ∧ ∀ i, i < k → l[n + i]? = some (s / 2 ^ (8 * i) % 256))
  case atStart => exact ⟨0, rfl, rfl, hb1, by omega⟩
  case round =>
    obtain ⟨k, hk, rfl, hg, hpre⟩ := hrel
    have HP := Lib.hid hpre
    clear hpre
    by_cases hk4 : k < 4
    · obtain ⟨b, off, rfl, hbw, hc⟩ := Hrd.out.at (by rw [bys_length]; have := Hn.out; omega)
      have hck := (hg.cell b (off + (n + k)) hbw).trans (hc (n + k) (by rw [bys_length]; have := Hn.out; omega))
      rw [bys_at l (n + k) (by have := Hn.out; omega)] at hck
      clear hc
      have hk0 : (0 : Int) ≤ (k : Int) := by omega
      have hk4' : (k : Int) < 4 := by omega
      have hnk : (n : Int) + (k : Int) < (n : Int) + 4 := by omega
      have hnk0 : (0 : Int) ≤ (n : Int) + (k : Int) := by omega
      have hw1 : IntKind.i64.wrap ((n : Int) + (k : Int)) = (n : Int) + (k : Int) := IntWalk.i64_in _ (by omega)
      have hw2 : IntKind.i64.wrap (8 * (k : Int)) = 8 * (k : Int) := IntWalk.i64_in _ (by omega)
      have h8k : (0 : Int) ≤ 8 * (k : Int) := by omega
      have htn : ((n : Int) + (k : Int)).toNat = n + k := by omega
      go_wp2_with fail
      go_quiet (fail)
      go_wp2_with fail
      · go_ret2
        refine (?_ : OpenRes w l _ _)
        have hne : ¬ l.drop (l.length - 4) = Crc.le4 (Crc.sum (l.take (l.length - 4))) := by
          intro h
          rw [Hn.out, Nat.add_sub_cancel, HE.out] at h
          have h1 := congrArg (fun x => x[k]?) h
          simp only [List.getElem?_drop, le4_at s k hk4] at h1
          rw [List.getElem?_eq_getElem (by have := Hn.out; omega)] at h1
          have h2 : (l[n + k]'(by have := Hn.out; omega)) = s / 2 ^ (8 * k) % 256 := by injection h1
          have h3 : (((l[n + k]'(by have := Hn.out; omega) : Nat) : Int) != (s : Int) / 2 ^ (8 * k) % 256) = true := by assumption
          rw [h2] at h3
          simp at h3
        rw [OpenRes, if_neg hne]
        exact ⟨rfl, hg.drewN _⟩
      · have h3 : (((l[n + k]'(by have := Hn.out; omega) : Nat) : Int) != (s : Int) / 2 ^ (8 * k) % 256) = false := by assumption
        go_roundg (gk - 1)
        case measure => omega
        case rel =>
          refine ⟨k + 1, by omega, by go_num, hg.drewN _, fun i hi => ?_⟩
          by_cases hik : i < k
          · exact HP.out i hik
          · obtain rfl : i = k := by omega
            rw [List.getElem?_eq_getElem (by have := Hn.out; omega)]
            simp at h3
            congr 1
            have : ((l[n + i]'(by have := Hn.out; omega) : Nat) : Int) = ((s / 2 ^ (8 * i) % 256 : Nat) : Int) := by rw [h3]; simp
            omega
    · obtain rfl : k = 4 := by omega
      have hrt : Rd wr a (bys (l.take n)) := HRT.out.grows hg
      have HR := Lib.hid hrt
      clear hrt
      go_wp2_with (at_builtin; refine wpList_append_rd _ rfl (.tmp 35) (.tmp 36) 28 rfl w.heap.size 5 i0 (.int .u8 0) 1 1 Try.underlying28 hi0 hz0 hz1 hz2 rfl (by decide) (.slice (some ⟨wr.heap.size, 0, none⟩) 0 0) 0 [] rfl ?h1 a n n (bys (l.take n)) rfl ?h2 ?h3 (bys_one _) ?h4 ?h5 ?h6 ?_)
      case h1 => exact World.ownsRow_made wr #[] 0 hg.size (by unfold maxLen; omega) rfl
      case h2 => exact HR.out.grows ((Grows.refl _).alloc _)
      case h3 => rw [bys_length, List.length_take]; have := Hn.out; omega
      case h4 => unfold maxLen; omega
      case h5 => omega
      case h6 => have := hg.size; simp; omega
      intro v' w2 hown hgr hat
      obtain ⟨a', c', rfl, _⟩ := own_slice hown
      go_wp2_with fail
      go_ret2
      refine (?_ : OpenRes w l _ _)
      have heq : l.drop (l.length - 4) = Crc.le4 (Crc.sum (l.take (l.length - 4))) := by
        rw [Hn.out, Nat.add_sub_cancel, HE.out]
        apply List.ext_getElem?
        intro i
        by_cases hi : i < 4
        · rw [le4_at s i hi, List.getElem?_drop, HP.out i hi]
        · rw [List.getElem?_eq_none (by simp; have := Hn.out; omega), List.getElem?_eq_none (by simp [Crc.le4]; omega)]
      rw [OpenRes, if_pos heq, Hn.out, Nat.add_sub_cancel]
      have hlen : (l.take n).length = n := by rw [List.length_take]; have := Hn.out; omega
      refine ⟨a', c', ?_, ?_⟩
      · rw [hlen]; simp
      · rw [hlen]
        refine ⟨by simpa using hown, ?_⟩
        refine (hg.alloc _).grown hgr ?_
        intro k hk
        simp [Value.ownBlock] at hk
        have := hg.size
        omega

end Go.Proofs.Ytmcofmidpedkiaa
