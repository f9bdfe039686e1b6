/-
  SumsTell returns true for all bytes and sums: the program's sums are the document's.
-/
import Derived.Test.YtgmpeljnekpefaaRef
import Derived.Test.YtgmpeljnekpefaaSumsOpen
import Derived.Deep.RegionHeld
namespace Go.Proofs.Ytgmpeljnekpefaa
open Go.RowKit

set_option maxHeartbeats 400000 in
theorem lawTell_long (n : Nat) (a : Option Addr) (cap : Nat) (B : Int) (w : World) (h : 20000 < (n : Int)) :
    Calls Try.prog 6 #[.slice a n cap, .int .u32 B] w fun e w' => e = .returned (.bool true) ∧ Grows w w' := by
  go_enter Try.func6, Try.ntmps6
  go_wp2_with fail
  refine (wakes_any _).mono ?_
  rintro e w1 ⟨rfl, hb1⟩
  go_wp2_with fail
  go_ret
  exact ⟨rfl, hb1⟩

/-- What Open and the document's Open answer, whatever the bytes: two slices of the same bytes, one answer. -/
def OpenSome (w : World) (x : List Nat) (k : Bool) (e : Ending) (w' : World) : Prop := ∃ a c, e = .returned (.tuple #[.slice a x.length c, .bool k]) ∧ Rd w' a (bys x) ∧ Grows w w'

theorem open_some (l : List Nat) : ∃ (x : List Nat) (k : Bool), (∀ y ∈ x, y ∈ l) ∧ x.length ≤ l.length ∧ ∀ w e w', (if l.length < 4 then OpenNo w e w' else OpenRes w l e w') → OpenSome w x k e w' := by
  by_cases h : l.length < 4
  · refine ⟨[], false, by simp, by simp, fun w e w' h1 => ?_⟩
    rw [if_pos h] at h1
    exact ⟨none, 0, h1.1, .inl rfl, h1.2⟩
  · by_cases h2 : l.drop (l.length - 4) = Crc.le4 (Crc.sum (l.take (l.length - 4)))
    · refine ⟨l.take (l.length - 4), true, fun y hy => List.mem_of_mem_take hy, by simp, fun w e w' h1 => ?_⟩
      rw [if_neg h, OpenRes, if_pos h2] at h1
      obtain ⟨a, c, he, h3, h4⟩ := h1
      exact ⟨a, c, he, Rd.own h3, h4⟩
    · refine ⟨[], false, by simp, by simp, fun w e w' h1 => ?_⟩
      rw [if_neg h, OpenRes, if_neg h2] at h1
      exact ⟨none, 0, h1.1, .inl rfl, h1.2⟩

theorem open_all (l : List Nat) (n : Nat) (hn : l.length = n) (a : Option Addr) (cap : Nat) (w : World) (hb : ∀ x ∈ l, x < 256) (hrd : Rd w a (bys l)) (hcap : n ≤ cap) (hl : n ≤ 1000000) :
    Calls Try.prog 11 #[.slice a n cap] w fun e w' => if l.length < 4 then OpenNo w e w' else OpenRes w l e w' := by
  subst hn
  by_cases h : l.length < 4
  · exact (open_short _ h a cap w).mono fun e w' h1 => by rw [if_pos h]; exact h1
  · obtain ⟨m, hm⟩ : ∃ m, l.length = m + 4 := ⟨l.length - 4, by omega⟩
    have := open_long l m hm a cap w hb hrd (by omega) (by omega)
    rw [← hm] at this
    exact this.mono fun e w' h1 => by rw [if_neg h]; exact h1
theorem refOpen_all (l : List Nat) (n : Nat) (hn : l.length = n) (a : Option Addr) (cap : Nat) (w : World) (hb : ∀ x ∈ l, x < 256) (hrd : Rd w a (bys l)) (hcap : n ≤ cap) (hl : n ≤ 1000000) :
    Calls Try.prog 12 #[.slice a n cap] w fun e w' => if l.length < 4 then OpenNo w e w' else OpenRes w l e w' := by
  subst hn
  by_cases h : l.length < 4
  · exact (refOpen_short _ h a cap w).mono fun e w' h1 => by rw [if_pos h]; exact h1
  · obtain ⟨m, hm⟩ : ∃ m, l.length = m + 4 := ⟨l.length - 4, by omega⟩
    have := refOpen_long l m hm a cap w hb hrd (by omega) (by omega)
    rw [← hm] at this
    exact this.mono fun e w' h1 => by rw [if_neg h]; exact h1

set_option maxHeartbeats 20000000 in
theorem lawTell_any (l : List Nat) (n : Nat) (hn : l.length = n) (a : Option Addr) (cap : Nat) (B : Nat) (w : World) (hb : ∀ x ∈ l, x < 256) (hrd : Rd w a (bys l)) (hcap : n ≤ cap) (hnil : a = none → n = 0 ∧ cap = 0) (h1 : (n : Int) ≤ 20000) (hB : B < 4294967296) :
    Calls Try.prog 6 #[.slice a n cap, .int .u32 B] w fun e w' => e = .returned (.bool true) ∧ Grows w w' := by
  obtain ⟨x, kx, hx1, hx2, hx3⟩ := open_some l
  have C1 := fun W (h : Grows w W) => Lib.hid ((open_all l n hn a cap W hb (hrd.grows h) hcap (by omega)).mono (hx3 W))
  have C2 := fun W (h : Grows w W) => Lib.hid ((refOpen_all l n hn a cap W hb (hrd.grows h) hcap (by omega)).mono (hx3 W))
  have C3 := fun W (h : Grows w W) => Lib.hid (sum_n l n hn a cap W hb (hrd.grows h) (by omega))
  have C4 := fun W (h : Grows w W) => Lib.hid (refSum_any l n hn a cap W hb (hrd.grows h) (by omega))
  have C5 := fun W (h : Grows w W) => Lib.hid (join_n B l n hn a cap W hB hb (hrd.grows h) (by omega))
  have C6 := fun W (h : Grows w W) => Lib.hid (refJoin_any B l n hn a cap W hB hb (hrd.grows h) (by omega))
  have C7 := fun W (h : Grows w W) => Lib.hid (seal_any l n hn a cap W hb (hrd.grows h) hcap hnil (by omega))
  have C8 := fun W (h : Grows w W) => Lib.hid (refSeal_any l n hn a cap W hb (hrd.grows h) (by omega))
  have hxb : Hid (∀ y ∈ x, y < 256) := fun y hy => hb y (hx1 y hy)
  clear hx1 hx3 hrd hb hnil
  generalize l ++ Crc.le4 (Crc.sum l) = L at *
  generalize Crc.sum l = s at *
  generalize Crc.join B l = j at *
  generalize hxl : x.length = m at *
  have Hxl := Lib.hid hxl
  clear hxl hn
  go_enter Try.func6, Try.ntmps6
  go_wp2_with fail
  refine (C1 _ (Grows.refl _)).out.mono ?_
  rintro e w1 ⟨a1, c1, rfl, hr1, hg1⟩
  rw [Hxl.out]
  go_wp2_with fail
  refine (C2 _ hg1).out.mono ?_
  rintro e w2 ⟨a2, c2, rfl, hr2, hg2⟩
  rw [Hxl.out]
  have G2d : Grows w w2.drew := (hg1.trans hg2).drew
  have g2d : Grows w2 w2.drew := (Grows.refl _).drew
  have cx1 : ∀ W, Grows w2 W → (convert 22 9 (.slice a1 m c1)).run Try.prog W = .ok (.string (strN x)) W := fun W h => run_conv (P := Try.prog) W 22 9 5 Try.underlying22 Try.underlying5 Try.underlying9 a1 x m c1 Hxl.out ((hr1.grows hg2).grows h)
  have cx2 : ∀ W, Grows w2 W → (convert 22 9 (.slice a2 m c2)).run Try.prog W = .ok (.string (strN x)) W := fun W h => run_conv (P := Try.prog) W 22 9 5 Try.underlying22 Try.underlying5 Try.underlying9 a2 x m c2 Hxl.out (hr2.grows h)
  clear hr1 hr2
  go_wp2_with fail
  go_region_held (fun W => Grows w2 W) (first | exact g2d | exact k9 | exact k8 | exact k7 | exact k5 | exact k3 | assumption) (first
    | (go_at_call 9; refine (C3 _ G2d).out.mono ?_; rintro e w3 ⟨rfl, hg3⟩; have G3 := G2d.trans hg3; have k3 := g2d.trans hg3)
    | (go_at_call 13; refine (C4 _ G3).out.mono ?_; rintro e w4 ⟨rfl, rfl⟩)
    | (go_at_call 8; refine (C5 _ G3).out.mono ?_; rintro e w5 ⟨rfl, hg5⟩; have G5 := G3.trans hg5; have k5 := k3.trans hg5)
    | (go_at_call 14; refine (C6 _ G5).out.mono ?_; rintro e w6 ⟨rfl, rfl⟩)
    | (go_at_call 10; refine (C7 _ G5).out.mono ?_; rintro e w7 ⟨g7, c7, rfl, hn7, hg7⟩; have G7 := G5.trans hg7; have k7 := k5.trans hg7; have r7 := Grows.refl w7; have cS : ∀ W, Grows w7 W → (convert 22 9 (.slice (some ⟨g7, 0, none⟩) L.length c7)).run Try.prog W = .ok (.string (strN L)) W := (fun W h => run_conv (P := Try.prog) W 22 9 5 Try.underlying22 Try.underlying5 Try.underlying9 _ L _ c7 rfl ((Rd.own hn7).grows h)); clear hn7)
    | (go_at_call 15; refine (C8 _ G7).out.mono ?_; rintro e w8 ⟨g8, c8, rfl, hn8, hg8⟩; have G8 := G7.trans hg8; have k8 := k7.trans hg8; have r8 := Grows.refl w8; have cR : ∀ W, Grows w8 W → (convert 22 9 (.slice (some ⟨g8, 0, none⟩) L.length c8)).run Try.prog W = .ok (.string (strN L)) W := (fun W h => run_conv (P := Try.prog) W 22 9 5 Try.underlying22 Try.underlying5 Try.underlying9 _ L _ c8 rfl ((Rd.own hn8).grows h)); clear hn8)
    | (go_at_call 7; refine (wakes_any _).mono ?_; rintro e w9 ⟨rfl, hg9⟩; have G9 := G8.trans hg9; have k9 := k8.trans hg9))
  all_goals
    go_wp2_with fail
    go_ret
    exact ⟨rfl, G9⟩

theorem lawTell (l : List Nat) (n : Nat) (hn : l.length = n) (a : Option Addr) (cap : Nat) (B : Int) (w : World) (hb : ∀ x ∈ l, x < 256) (hrd : Rd w a (bys l)) (hcap : n ≤ cap) (hnil : a = none → n = 0 ∧ cap = 0) (hB : (Lit.int .u32 B).wf = true) :
    Calls Try.prog 6 #[.slice a n cap, .int .u32 B] w fun e w' => e = .returned (.bool true) ∧ Grows w w' := by
  simp [Lit.wf, IntKind.min, IntKind.max, IntKind.signed, IntKind.bits] at hB
  by_cases h : 20000 < (n : Int)
  · exact lawTell_long n a cap B w h
  · obtain ⟨b, rfl⟩ := Int.eq_ofNat_of_zero_le hB.1
    exact lawTell_any l n hn a cap b w hb hrd hcap hnil (by omega) (by omega)

end Go.Proofs.Ytgmpeljnekpefaa
