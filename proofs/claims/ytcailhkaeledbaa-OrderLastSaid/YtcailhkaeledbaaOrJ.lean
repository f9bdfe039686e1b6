/-
  order.Order, order.May.
-/
import Derived.Test.YtcailhkaeledbaaOrI
namespace Go.Proofs.Ytcailhkaeledbaa
open Go.RowKit Go.Maps

def OrdP (L : List Sn) (w : World) (e : Ending) (w' : World) : Prop :=
  Grows w w' ∧ ((mayB L = false ∧ e = .returned (.tuple #[.slice none 0 0, .int .i64 2])) ∨
    (mayB L = true ∧ ∃ a c, e = .returned (.tuple #[.slice a (decL L).length c, .int .i64 0]) ∧ Rd w' a (rowsOf Nm.cs (decL L)) ∧ (decL L).length ≤ c))
theorem order_p (L : List Sn) (n : Nat) (hn : L.length = n) (hL : n ≤ 1000000) (hok : ∀ x ∈ L, x.n.ok) (a : Option Addr) (cap : Nat) (w : World) (hr : Rd w a (rowsOf Sn.cs L)) :
    Calls Try.prog 9 #[.slice a n cap] w (OrdP L w) := by
  have HT := Lib.hid (tracks_any L n hn hL hok a cap w hr)
  have HL : Hid (L.length ≤ 1000000) := Lib.hid (by omega)
  clear hn hL hok hr
  go_enter Try.func9, Try.ntmps9
  go_wp2_with fail
  refine HT.out.mono ?_
  rintro e w1 ⟨hg, ⟨hm, rfl⟩ | ⟨hm, m, V, rfl, hT⟩⟩
  · have HG := Lib.hid hg
    have HM := Lib.hid hm
    clear hg hm
    go_wp2_with fail
    go_ret2
    exact ⟨HG.out, .inl ⟨HM.out, rfl⟩⟩
  · have HG := Lib.hid hg
    have HM := Lib.hid hm
    have HD := Lib.hid (decided_any hT HL.out (com_at L hm))
    clear hg hm hT
    go_wp2_with fail
    refine HD.out.mono ?_
    rintro e w2 ⟨a', c', rfl, hr', hc', hg', _⟩
    have HR := Lib.hid hr'
    have HC := Lib.hid hc'
    have HG2 := Lib.hid (HG.out.trans hg')
    clear hr' hc' hg'
    go_wp2_with fail
    go_ret2
    exact ⟨HG2.out, .inr ⟨HM.out, a', c', rfl, HR.out, HC.out⟩⟩
theorem order_no (L : List Sn) (n : Nat) (hn : L.length = n) (hL : n ≤ 1000000) (hok : ∀ x ∈ L, x.n.ok) (a : Option Addr) (cap : Nat) (w : World) (hr : Rd w a (rowsOf Sn.cs L)) (hm : mayB L = false) :
    Calls Try.prog 9 #[.slice a n cap] w fun e w' => e = .returned (.tuple #[.slice none 0 0, .int .i64 2]) ∧ Grows w w' := by
  refine (order_p L n hn hL hok a cap w hr).mono ?_
  rintro e w' ⟨hg, ⟨_, rfl⟩ | ⟨h, _⟩⟩
  · exact ⟨rfl, hg⟩
  · rw [hm] at h; cases h
theorem order_yes (L : List Sn) (n : Nat) (hn : L.length = n) (hL : n ≤ 1000000) (hok : ∀ x ∈ L, x.n.ok) (a : Option Addr) (cap : Nat) (w : World) (hr : Rd w a (rowsOf Sn.cs L)) (hm : mayB L = true) :
    Calls Try.prog 9 #[.slice a n cap] w fun e w' => ∃ a c, e = .returned (.tuple #[.slice a (decL L).length c, .int .i64 0]) ∧ Rd w' a (rowsOf Nm.cs (decL L)) ∧ (decL L).length ≤ c ∧ Grows w w' := by
  refine (order_p L n hn hL hok a cap w hr).mono ?_
  rintro e w' ⟨hg, ⟨h, _⟩ | ⟨_, a', c', rfl, h1, h2⟩⟩
  · rw [hm] at h; cases h
  · exact ⟨a', c', rfl, h1, h2, hg⟩
theorem may_any (L : List Sn) (n : Nat) (hn : L.length = n) (hL : n ≤ 1000000) (hok : ∀ x ∈ L, x.n.ok) (a : Option Addr) (cap : Nat) (w : World) (hr : Rd w a (rowsOf Sn.cs L)) :
    Calls Try.prog 6 #[.slice a n cap] w fun e w' => e = .returned (.bool (mayB L)) ∧ Grows w w' := by
  have HT := Lib.hid (tracks_any L n hn hL hok a cap w hr)
  clear hn hL hok hr
  go_enter Try.func6, Try.ntmps6
  go_wp2_with fail
  refine HT.out.mono ?_
  rintro e w1 ⟨hg, ⟨hm, rfl⟩ | ⟨hm, m, V, rfl, hT⟩⟩
  · have HG := Lib.hid hg
    have HM := Lib.hid hm
    clear hg hm
    go_wp2_with fail
    go_ret
    exact ⟨by rw [HM.out]; rfl, HG.out⟩
  · have HG := Lib.hid hg
    have HM := Lib.hid hm
    clear hg hm hT
    go_wp2_with fail
    go_ret
    exact ⟨by rw [HM.out]; rfl, HG.out⟩
end Go.Proofs.Ytcailhkaeledbaa
