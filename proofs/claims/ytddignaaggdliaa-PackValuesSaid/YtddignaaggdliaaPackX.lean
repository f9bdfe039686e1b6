/-
  The document's answer: rows of blocks as bytes, and back.
-/
import Derived.Test.YtddignaaggdliaaPackW
namespace Go.Proofs.Ytddignaaggdliaa
open Go.RowKit

set_option maxHeartbeats 400000 in
theorem refReadValues_no (a : Option Addr) (n cap : Nat) (w : World) (h : n % 8 ≠ 0) : Calls Try.prog 15 #[.slice a n cap] w fun e w' => e = .returned (.tuple #[.slice none 0 0, .int .i64 40]) ∧ w = w' := by
  have h' : ((n : Int) % 8 != 0) = true := by simp; omega
  have h0 : (0 : Int) ≤ (n : Int) := by omega
  go_enter Try.func15, Try.ntmps15
  go_wp2
  go_ret2
  exact ⟨rfl, rfl⟩

set_option maxHeartbeats 1000000 in
theorem refReadValues_yes (L : List Nat) (m : Nat) (hL : L.length = m * 8) (a : Option Addr) (cap : Nat) (w : World) (hrd : Rd w a (bys L)) (hcap : m * 8 ≤ cap) (hm : m ≤ 100000) :
    Calls Try.prog 15 #[.slice a (m * 8 : Nat) cap] w fun e w' => ∃ a2 c2, e = .returned (.tuple #[.slice a2 m c2, .int .i64 0]) ∧ New w 36 8 m (bys L) (.slice a2 m c2) w' := by
  obtain ⟨i0, hi0, hz0, hz1, hz2⟩ := info_parts info_val
  have Hrd := Lib.hid hrd
  have HL := Lib.hid hL
  clear hrd hL
  have h' : ((m : Int) * 8 % 8 != 0) = false := by simp
  have h0 : (0 : Int) ≤ (m : Int) * 8 := by omega
  go_enter Try.func15, Try.ntmps15
  go_wp2_with fail
  clear h' h0
  go_loopg [4, 5] m (fun gh v t wr => ∃ (k : Nat) (a2 : Option Addr) (c2 : Nat), k + gh = m ∧ t = .int .i64 ((k : Int) * 8) ∧ v = .slice a2 k c2 ∧ Grows w wr ∧ wr.ownsRow w.heap.size 36 8 (.slice a2 k c2) k (bys (L.take (k * 8))))
  case atStart => exact ⟨0, none, 0, by omega, rfl, rfl, Grows.refl _, by simpa [bys] using World.ownsRow_nil _ _ _ _⟩
  case round =>
    obtain ⟨k, a2, c2, hk, rfl, rfl, hg, hown⟩ := hrel
    have HO := Lib.hid hown
    clear hown
    by_cases hlt : k < m
    · obtain ⟨b, off, rfl, hbw, hc⟩ := Hrd.out.at (by rw [bys_length]; have := HL.out; omega)
      clear hc
      have hlt' : (k : Int) * 8 < (m : Int) * 8 := by omega
      have hne : ¬ cap = k * 8 := by omega
      have hk8 : (0 : Int) ≤ (k : Int) * 8 := by omega
      have hw1 : IntKind.i64.wrap ((k : Int) * 8 + 8) = (k : Int) * 8 + 8 := IntWalk.i64_in _ (by omega)
      have htn : ((k : Int) * 8).toNat = k * 8 := by omega
      have htn2 : ((k : Int) * 8 + 8).toNat = k * 8 + 8 := by omega
      have hle : (k : Int) * 8 + 8 ≤ (cap : Int) := by omega
      have hsub : k * 8 + 8 - k * 8 = 8 := by omega
      have Hcut := Lib.hid (((Hrd.out.grows hg).cut (k * 8) 8 cap (by omega)))
      have HLk : Hid (((L.drop (k * 8)).take 8).length = 8) := by show _ = _; simp; have := HL.out; omega
      have HTK : Hid (L.take ((k + 1) * 8) = L.take (k * 8) ++ (L.drop (k * 8)).take 8) := by show _ = _; rw [← List.take_add]; congr 1; omega
      go_wp2_with fail
      refine (refValue_yes ((L.drop (k * 8)).take 8) HLk.out _ _ _ ?_).mono ?_
      · rw [bys_cut]
        have h := Hcut.out
        have hadd : cutAddr (some ⟨b, off, none⟩) cap (k * 8) = some ⟨b, off + k * 8, none⟩ := by
          simp only [cutAddr, hne, if_false, Option.map_some, Addr.add]
          split <;> simp_all
        rw [hadd] at h
        exact h
      obtain ⟨x0, x1, x2, x3, x4, x5, x6, x7, hC⟩ := eight HLk.out
      have HC := Lib.hid hC
      clear hC
      rintro e w1 ⟨rfl, hb1⟩
      rw [HC.out]
      simp only [agg8, bys, List.map]
      have hg1 := hg.trans hb1
      have HO1 := Lib.hid (own_grows HO.out hb1)
      clear HO
      go_wp2_with (at_builtin; refine wpList_append_rd _ rfl (.tmp 27) (.tmp 29) 32 rfl w.heap.size 36 i0 _ 8 8 Try.underlying32 hi0 hz0 hz1 hz2 rfl (by decide) _ k _ rfl ((HO1.out.alloc _).alloc _) (some ⟨w1.heap.size + 1, 0, none⟩) 1 1 (bys [x0, x1, x2, x3, x4, x5, x6, x7]) rfl ?q0 rfl (bys_one _) ?q4 ?q5 ?q6 ?_)
      case q0 =>
        have h := rd_new (w1.alloc (.cells #[.int .u8 x0, .int .u8 x1, .int .u8 x2, .int .u8 x3, .int .u8 x4, .int .u8 x5, .int .u8 x6, .int .u8 x7] 36)) #[.int .u8 x0, .int .u8 x1, .int .u8 x2, .int .u8 x3, .int .u8 x4, .int .u8 x5, .int .u8 x6, .int .u8 x7] 36 (0, 0)
        rw [World.size_alloc] at h
        exact h
      case q4 => unfold maxLen; omega
      case q5 => omega
      case q6 => have := hg1.size; simp; omega
      intro v2 w2 hown2 hgr2 _
      obtain ⟨a3, c3, rfl, _⟩ := own_slice hown2
      have hg2 : Grows w w2 := ((hg1.alloc _).alloc _).grown hgr2 (by intro k hk; exact (HO1.out.lt k hk).1)
      have Hown2 := Lib.hid hown2
      clear hown2 hgr2
      go_wp2_with fail
      go_roundg (gk - 1)
      case measure => omega
      case rel =>
        refine ⟨k + 1, a3, c3, by omega, by rw [Int.natCast_add, Int.add_mul]; rfl, rfl, hg2, ?_⟩
        rw [HTK.out, HC.out, bys_append]
        exact Hown2.out
    · obtain rfl : k = m := by omega
      go_wp2_with fail
      go_ret2
      have h := HO.out
      rw [List.take_of_length_le (by rw [HL.out]; exact Nat.le_refl _)] at h
      exact ⟨a2, c2, rfl, h, hg⟩

set_option maxHeartbeats 1000000 in
theorem refValues_any (L : List Nat) (m : Nat) (hL : L.length = m * 8) (a : Option Addr) (cap : Nat) (w : World) (hrd : Rd w a (bys L)) (hm : m ≤ 100000) :
    Calls Try.prog 19 #[.slice a m cap] w fun e w' => ∃ a2 c2, e = .returned (.slice a2 (m * 8) c2) ∧ New w 5 1 (m * 8) (bys L) (.slice a2 (m * 8) c2) w' := by
  obtain ⟨i0, hi0, hz0, hz1, hz2⟩ := info_parts info_u8
  have Hrd := Lib.hid hrd
  have HL := Lib.hid hL
  clear hrd hL
  go_enter Try.func19, Try.ntmps19
  go_wp2_with fail
  go_loopg [3, 4] m (fun gh v t wr => ∃ (k : Nat) (a2 : Option Addr) (c2 : Nat), k + gh = m ∧ t = .int .i64 (k : Int) ∧ v = .slice a2 (k * 8) c2 ∧ Grows w wr ∧ wr.ownsRow w.heap.size 5 1 (.slice a2 (k * 8) c2) (k * 8) (bys (L.take (k * 8))))
  case atStart => exact ⟨0, none, 0, by omega, rfl, rfl, Grows.refl _, by simpa [bys] using World.ownsRow_nil _ _ _ _⟩
  case round =>
    obtain ⟨k, a2, c2, hk, rfl, rfl, hg, hown⟩ := hrel
    have HO := Lib.hid hown
    clear hown
    by_cases hlt : k < m
    · obtain ⟨b, off, rfl, hbw, hc⟩ := Hrd.out.at (by rw [bys_length]; have := HL.out; omega)
      have HCC := Lib.hid hc
      clear hc
      have hlt' : (k : Int) < (m : Int) := by omega
      have hk0 : (0 : Int) ≤ (k : Int) := by omega
      go_wp2_with fail
      obtain ⟨gk', hgk⟩ : ∃ gk' : Nat, gk' = gk := ⟨_, rfl⟩
      subst hgk
      obtain ⟨wr', hwr⟩ : ∃ wr' : World, wr' = wr := ⟨_, rfl⟩
      subst hwr
      go_loopg [3, 5] 8 (fun gh v t wr => ∃ (j : Nat) (a2 : Option Addr) (c2 : Nat), j + gh = 8 ∧ t = .int .i64 (j : Int) ∧ v = .slice a2 (k * 8 + j) c2 ∧ Grows w wr ∧ wr.ownsRow w.heap.size 5 1 (.slice a2 (k * 8 + j) c2) (k * 8 + j) (bys (L.take (k * 8 + j))))
      case atStart => exact ⟨0, a2, c2, by omega, rfl, rfl, hg, HO.out⟩
      case round =>
        obtain ⟨j, a3, c3, hj, rfl, rfl, hg3, hown3⟩ := hrel
        have HO3 := Lib.hid hown3
        clear hown3 HO
        by_cases hjl : j < 8
        · have hjl' : (j : Int) < 8 := by omega
          have hj0 : (0 : Int) ≤ (j : Int) := by omega
          have hlL : k * 8 + j < L.length := by have := HL.out; omega
          have hcell := (hg3.cell b (off + (k * 8 + j)) hbw).trans (HCC.out (k * 8 + j) (by rw [bys_length]; exact hlL))
          rw [bys_at L (k * 8 + j) hlL, ← Nat.add_assoc] at hcell
          have HT := Lib.hid (List.take_succ_eq_append_getElem hlL)
          generalize L[k * 8 + j] = x at *
          clear hlL
          go_wp2_with (at_builtin; refine wpList_append_rd _ rfl (.tmp 16) (.tmp 23) 22 rfl w.heap.size 5 i0 (.int .u8 0) 1 1 Try.underlying22 hi0 hz0 hz1 hz2 rfl (by decide) _ (k * 8 + j) _ rfl (HO3.out.alloc _) (some ⟨wr.heap.size, 0, none⟩) 1 1 [.int .u8 (x : Int)] rfl (rd_new wr #[.int .u8 (x : Int)] 5 (0, 0)) rfl ?q1 ?q4 ?q5 ?q6 ?_)
          case q1 => intro u hu; simp at hu; subst hu; rfl
          case q4 => unfold maxLen; omega
          case q5 => omega
          case q6 => have := hg3.size; simp; omega
          intro v2 w2 hown2 hgr2 _
          obtain ⟨a4, c4, rfl, _⟩ := own_slice hown2
          have hg4 : Grows w w2 := (hg3.alloc _).grown hgr2 (by intro k hk; exact (HO3.out.lt k hk).1)
          have Hown2 := Lib.hid hown2
          clear hown2 hgr2
          go_wp2_with fail
          go_roundg (gk - 1)
          case measure => omega
          case rel =>
            refine ⟨j + 1, a4, c4, by omega, by go_num, by rw [Nat.add_assoc], hg4, ?_⟩
            rw [← Nat.add_assoc, HT.out, bys_append]
            exact Hown2.out
        · obtain rfl : j = 8 := by omega
          go_wp2_with fail
          go_roundg (gk' - 1)
          case measure => omega
          case rel =>
            refine ⟨k + 1, a3, c3, by omega, by go_num, by rw [Nat.add_mul], hg3, ?_⟩
            rw [Nat.add_mul]
            exact HO3.out
    · obtain rfl : k = m := by omega
      go_wp2_with fail
      go_ret
      have h := HO.out
      rw [List.take_of_length_le (by rw [HL.out]; exact Nat.le_refl _)] at h
      exact ⟨a2, c2, rfl, h, hg⟩
end Go.Proofs.Ytddignaaggdliaa
