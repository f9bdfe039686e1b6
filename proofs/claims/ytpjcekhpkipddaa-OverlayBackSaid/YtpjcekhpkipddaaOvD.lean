/-
  slices.Equal and overlay.Same of two overlays that read alike; great; putE's cases.
-/
import Derived.Test.YtpjcekhpkipddaaOvC
import Derived.Test.YtpjcekhpkipddaaFlat
import Derived.Deep.QuietTactic
import Derived.BigQuiet
namespace Go.Proofs.Ytpjcekhpkipddaa
open Go.RowKit

theorem cellsEq_self : ∀ {ks : List (Option IntKind)} {a : List Value}, OfKinds ks a → cellsEq a a = true := fun h => (cellsEq_iff h h).2 rfl
def ksWr : List (Option IntKind) := [some .i64, some .u8, some .u8, some .u8, some .u8, some .u8, some .u8, some .u8, some .u8]
theorem flat_wr : flatQ Try.prog 3 26 = some ksWr := by kernel_rfl
theorem mk_wr (cs : List Value) : mkV Try.prog 26 cs = .agg cs.toArray := rfl
theorem kinds_wr (b : Int) (x0 x1 x2 x3 x4 x5 x6 x7 : Nat) : OfKinds ksWr [.int .i64 b, .int .u8 x0, .int .u8 x1, .int .u8 x2, .int .u8 x3, .int .u8 x4, .int .u8 x5, .int .u8 x6, .int .u8 x7] :=
  ⟨⟨_, rfl⟩, ⟨_, rfl⟩, ⟨_, rfl⟩, ⟨_, rfl⟩, ⟨_, rfl⟩, ⟨_, rfl⟩, ⟨_, rfl⟩, ⟨_, rfl⟩, ⟨_, rfl⟩, trivial⟩
theorem eqw_self (W : World) (b : Int) (x0 x1 x2 x3 x4 x5 x6 x7 : Nat) : (Op.equalIn 10000 26 (.agg #[.int .i64 b, .int .u8 x0, .int .u8 x1, .int .u8 x2, .int .u8 x3, .int .u8 x4, .int .u8 x5, .int .u8 x6, .int .u8 x7]) (.agg #[.int .i64 b, .int .u8 x0, .int .u8 x1, .int .u8 x2, .int .u8 x3, .int .u8 x4, .int .u8 x5, .int .u8 x6, .int .u8 x7])).run Try.prog W = .ok true W := by
  have := eq_flat_agg (P := Try.prog) W 3 26 ksWr flat_wr (by omega) mk_wr _ _ (kinds_wr b x0 x1 x2 x3 x4 x5 x6 x7) (kinds_wr b x0 x1 x2 x3 x4 x5 x6 x7)
  rw [cellsEq_self (kinds_wr b x0 x1 x2 x3 x4 x5 x6 x7)] at this
  exact this

set_option maxHeartbeats 1000000 in
theorem equal_same (l : List Wr) (m : Nat) (hL : l.length = m) (h8 : W8 l) (a b : Option Addr) (cap cap2 : Nat) (w : World) (ha : Rd w a (wrs l)) (hb : Rd w b (wrs l)) (hm : m ≤ 100000) :
    Calls Try.prog 17 #[.slice a m cap, .slice b m cap2] w fun e w' => e = .returned (.bool true) ∧ Grows w w' := by
  have Ha := Lib.hid ha
  have Hb := Lib.hid hb
  have HL := Lib.hid hL
  have H8 := Lib.hid h8
  clear ha hb hL h8
  go_enter Try.func17, Try.ntmps17
  go_wp2_with fail
  go_loopg [13] m (fun gh t wr => ∃ k : Nat, k + gh = m ∧ t = .int .i64 k ∧ Grows w wr)
  case atStart => exact ⟨0, by omega, rfl, Grows.refl _⟩
  case round =>
    obtain ⟨k, hk, rfl, hg⟩ := hrel
    by_cases hlt : k < m
    · obtain ⟨g, off, b, x0, x1, x2, x3, x4, x5, x6, x7, rfl, hgw, hek, c0, c1, c2, c3, c4, c5, c6, c7, c8⟩ := cells9 H8.out (Ha.out.grows hg) (k := k) (by rw [HL.out]; exact hlt)
      obtain ⟨g', off', b', y0, y1, y2, y3, y4, y5, y6, y7, rfl, hgw', hek', d0, d1, d2, d3, d4, d5, d6, d7, d8⟩ := cells9 H8.out (Hb.out.grows hg) (k := k) (by rw [HL.out]; exact hlt)
      rw [hek] at hek'
      simp only [Prod.mk.injEq, List.cons.injEq, and_true] at hek'
      obtain ⟨rfl, rfl, rfl, rfl, rfl, rfl, rfl, rfl, rfl⟩ := hek'
      clear hek
      have hlt' : (k : Int) < (m : Int) := by omega
      have hk0 : (0 : Int) ≤ (k : Int) := by omega
      have he := eqw_self
      go_wp2_with fail
      go_quiet (fail)
      go_wp2_with fail
      go_roundg (gk - 1)
      case measure => omega
      case rel => exact ⟨k + 1, by omega, by go_num, hg.drewN _⟩
    · obtain rfl : k = m := by omega
      go_wp2_with fail
      go_ret
      exact ⟨rfl, hg⟩

theorem same_same (l : List Wr) (m : Nat) (hL : l.length = m) (h8 : W8 l) (a b : Option Addr) (cap cap2 : Nat) (w : World) (ha : Rd w a (wrs l)) (hb : Rd w b (wrs l)) (hm : m ≤ 100000) :
    Calls Try.prog 9 #[.slice a m cap, .slice b m cap2] w fun e w' => e = .returned (.bool true) ∧ Grows w w' := by
  have Ha := Lib.hid ha
  have Hb := Lib.hid hb
  have HL := Lib.hid hL
  have H8 := Lib.hid h8
  clear ha hb hL h8
  go_enter Try.func9, Try.ntmps9
  go_wp2_with fail
  refine (equal_same l m HL.out H8.out a b cap cap2 _ Ha.out Hb.out hm).mono ?_
  rintro e w1 ⟨rfl, hb1⟩
  go_wp2_with fail
  go_ret
  exact ⟨rfl, hb1⟩

theorem great_any (a : Option Addr) (n cap : Nat) (w : World) :
    Calls Try.prog 5 #[.slice a n cap] w fun e w' => e = .returned (.bool (decide (100 < (n : Int)))) ∧ w = w' := by
  go_enter Try.func5, Try.ntmps5
  go_wp2_with fail
  go_ret
  exact ⟨rfl, rfl⟩

theorem putE_nz (l : List Wr) (x : Wr) (h : putE l x ≠ 0) : (writtenB l && isB x.1) = false ∧ putE l x = 2 ∨ writtenB l = true ∧ isB x.1 = true ∧ phas l x.1 = false ∧ 8 ≤ l.length ∧ putE l x = 50 := by
  unfold putE at *
  cases h1 : (writtenB l && isB x.1) <;> rw [h1] at h
  · exact .inl ⟨rfl, rfl⟩
  · cases h2 : (!phas l x.1 && decide (8 ≤ l.length)) <;> rw [h2] at h
    · simp at h
    · simp at h1 h2
      exact .inr ⟨h1.1, h1.2, h2.1, h2.2, rfl⟩
theorem putE_z (l : List Wr) (x : Wr) (h : putE l x = 0) : writtenB l = true ∧ isB x.1 = true ∧ (phas l x.1 = true ∨ l.length < 8) := by
  unfold putE at *
  cases h1 : (writtenB l && isB x.1) <;> rw [h1] at h
  · simp at h
  · cases h2 : (!phas l x.1 && decide (8 ≤ l.length)) <;> rw [h2] at h
    · simp at h1 h2
      refine ⟨h1.1, h1.2, ?_⟩
      cases h3 : phas l x.1
      · exact .inr (by have := h2 h3; omega)
      · exact .inl rfl
    · simp at h
theorem written_le {l : List Wr} (h : writtenB l = true) : l.length ≤ 8 ∧ goesUp (-1) l = true := by
  simpa [writtenB] using h

/-- Put that is refused. -/
theorem put_bad (l : List Wr) (n : Nat) (hn : l.length = n) (h8 : W8 l) (a : Option Addr) (cap : Nat) (b : Int) (x0 x1 x2 x3 x4 x5 x6 x7 : Nat) (w : World) (hrd : Rd w a (wrs l)) (hl : n ≤ 1000000) (h : putE l (b, [x0, x1, x2, x3, x4, x5, x6, x7]) ≠ 0) :
    Calls Try.prog 7 #[.slice a n cap, aggW b x0 x1 x2 x3 x4 x5 x6 x7] w fun e w' => e = .returned (.tuple #[.slice none 0 0, .int .i64 (putE l (b, [x0, x1, x2, x3, x4, x5, x6, x7]))]) ∧ Grows w w' := by
  rcases putE_nz _ _ h with ⟨h1, h2⟩ | ⟨h1, h2, h3, h4, h5⟩
  · rw [h2]; exact put_arg l n hn h8 a cap b x0 x1 x2 x3 x4 x5 x6 x7 w hrd hl h1
  · rw [h5]; exact put_full l n hn h8 a cap b x0 x1 x2 x3 x4 x5 x6 x7 w hrd hl h1 h2 h3 (by omega)
/-- Put that is done. -/
def PutOk (w : World) (l : List Wr) (e : Ending) (w' : World) : Prop := ∃ g m c, e = .returned (.tuple #[.slice (some ⟨g, 0, none⟩) m c, .int .i64 0]) ∧ l.length = m ∧ Rd w' (some ⟨g, 0, none⟩) (wrs l) ∧ m ≤ c ∧ Grows w w'
theorem put_good (l : List Wr) (n : Nat) (hn : l.length = n) (h8 : W8 l) (a : Option Addr) (cap : Nat) (b : Int) (x0 x1 x2 x3 x4 x5 x6 x7 : Nat) (w : World) (hrd : Rd w a (wrs l)) (hcap : n ≤ cap) (hnil : a = none → n = 0 ∧ cap = 0) (h : putE l (b, [x0, x1, x2, x3, x4, x5, x6, x7]) = 0) :
    Calls Try.prog 7 #[.slice a n cap, aggW b x0 x1 x2 x3 x4 x5 x6 x7] w (PutOk w (ins (b, [x0, x1, x2, x3, x4, x5, x6, x7]) l)) := by
  obtain ⟨h1, h2, h3⟩ := putE_z _ _ h
  have := written_le h1
  refine (put_ok l n hn h8 a cap b x0 x1 x2 x3 x4 x5 x6 x7 w hrd hcap hnil (by omega) h1 h2 (by rw [← hn]; exact h3)).mono ?_
  rintro e w' ⟨g, m, c, rfl, h5, h6⟩
  exact ⟨g, m, c, rfl, h5, h6.rd, (own_cap h6.1).1, h6.2⟩

set_option maxHeartbeats 1000000 in
theorem wakes_any (w : World) : Calls Try.prog 6 #[] w fun e w' => e = .returned (.bool true) ∧ Grows w w' := by
  go_enter Try.func6, Try.ntmps6
  go_wp2_with fail
  refine (put_good [] 0 rfl (by intro x hx; cases hx) none 0 5 1 0 0 0 0 0 0 0 _ (Rd.nil _ _) (by omega) (fun _ => ⟨rfl, rfl⟩) rfl).mono ?_
  rintro e w1 ⟨g1, m1, c1, rfl, rfl, hr1, hc1, hg1⟩
  have HR1 := Lib.hid hr1
  clear hr1
  go_wp2_with fail
  refine (put_good [(5, [1, 0, 0, 0, 0, 0, 0, 0])] 1 rfl (by intro x hx; simp at hx; subst hx; rfl) _ _ 3 2 0 0 0 0 0 0 0 _ HR1.out hc1 (fun h => by cases h) rfl).mono ?_
  rintro e w2 ⟨g2, m2, c2, rfl, rfl, hr2, hc2, hg2⟩
  have HR2 := Lib.hid hr2
  clear hr2
  go_wp2_with fail
  refine (put_good [(3, [2, 0, 0, 0, 0, 0, 0, 0]), (5, [1, 0, 0, 0, 0, 0, 0, 0])] 2 rfl (by intro x hx; simp at hx; rcases hx with rfl | rfl <;> rfl) _ _ 5 3 0 0 0 0 0 0 0 _ HR2.out hc2 (fun h => by cases h) rfl).mono ?_
  rintro e w3 ⟨g3, m3, c3, rfl, rfl, hr3, hc3, hg3⟩
  have hr3' : Rd w3 (some ⟨g3, 0, none⟩) (wrs [(3, [2, 0, 0, 0, 0, 0, 0, 0]), (5, [3, 0, 0, 0, 0, 0, 0, 0])]) := hr3
  obtain ⟨_, _, h1, _, hc⟩ := hr3'.at (by decide)
  injection h1 with h1
  injection h1 with h1 h2
  subst h1; subst h2
  have d0 := hc 0 (by decide)
  have d1 := hc 10 (by decide)
  have d0' : w3.cell? ⟨g3, 0, none⟩ = some (.int .i64 3) := d0
  have d1' : w3.cell? ⟨g3, 10, none⟩ = some (.int .u8 3) := d1
  clear d0 d1 hc hr3' hr3
  go_wp2_with fail
  go_ret
  exact ⟨rfl, (hg1.trans hg2).trans hg3⟩
end Go.Proofs.Ytpjcekhpkipddaa
