/-
  PackValues returns true: blocks as bytes, and back.
-/
import Derived.Test.YtddignaaggdliaaPackX
namespace Go.Proofs.Ytddignaaggdliaa
open Go.RowKit

def rdX (L : List Nat) : List Nat := if L.length % 8 = 0 then L else []
def rdN (m : Nat) : Nat := if m % 8 = 0 then m / 8 else 0
def rdE (m : Nat) : Int := if m % 8 = 0 then 0 else 40
def vaX (L : List Nat) : List Nat := if L.length = 8 then L else zero8
def vaE (m : Nat) : Int := if m = 8 then 0 else 2
theorem rdX_len (L : List Nat) : (rdX L).length = rdN L.length * 8 := by
  unfold rdX rdN
  split
  · omega
  · simp
theorem vaX_len (L : List Nat) : (vaX L).length = 8 := by
  unfold vaX; split
  · assumption
  · rfl
def ReadSome (w : World) (L : List Nat) (e : Ending) (w' : World) : Prop := ∃ a c, e = .returned (.tuple #[.slice a (rdN L.length) c, .int .i64 (rdE L.length)]) ∧ Rd w' a (bys (rdX L)) ∧ Grows w w'

theorem readValues_all (L : List Nat) (m : Nat) (hL : L.length = m) (a : Option Addr) (cap : Nat) (w : World) (hrd : Rd w a (bys L)) (hcap : m ≤ cap) (hm : m ≤ 100000) :
    Calls Try.prog 14 #[.slice a m cap] w fun e w' => ReadSome w L e w' := by
  subst hL
  by_cases h : L.length % 8 = 0
  · obtain ⟨q, hq⟩ : ∃ q, L.length = q * 8 := ⟨L.length / 8, by omega⟩
    have hN : rdN L.length = q := by rw [rdN, if_pos h]; omega
    rw [hq] at hcap ⊢
    refine (readValues_yes L q hq a cap w hrd hcap (by omega)).mono ?_
    rintro e w' ⟨g, rfl, hn⟩
    exact ⟨_, q, by rw [hN, rdE, if_pos h], by rw [rdX, if_pos h]; exact Rd.own hn.1, hn.2⟩
  · refine (readValues_no a _ cap w h).mono ?_
    rintro e w' ⟨rfl, rfl⟩
    exact ⟨none, 0, by rw [rdN, if_neg h, rdE, if_neg h], by rw [rdX, if_neg h]; exact Rd.nil _ _, Grows.refl _⟩
theorem refReadValues_all (L : List Nat) (m : Nat) (hL : L.length = m) (a : Option Addr) (cap : Nat) (w : World) (hrd : Rd w a (bys L)) (hcap : m ≤ cap) (hm : m ≤ 100000) :
    Calls Try.prog 15 #[.slice a m cap] w fun e w' => ReadSome w L e w' := by
  subst hL
  by_cases h : L.length % 8 = 0
  · obtain ⟨q, hq⟩ : ∃ q, L.length = q * 8 := ⟨L.length / 8, by omega⟩
    have hN : rdN L.length = q := by rw [rdN, if_pos h]; omega
    rw [hq] at hcap ⊢
    refine (refReadValues_yes L q hq a cap w hrd hcap (by omega)).mono ?_
    rintro e w' ⟨g, c, rfl, hn⟩
    exact ⟨g, c, by rw [hN, rdE, if_pos h], by rw [rdX, if_pos h]; exact Rd.own hn.1, hn.2⟩
  · refine (refReadValues_no a _ cap w h).mono ?_
    rintro e w' ⟨rfl, rfl⟩
    exact ⟨none, 0, by rw [rdN, if_neg h, rdE, if_neg h], by rw [rdX, if_neg h]; exact Rd.nil _ _, Grows.refl _⟩
theorem value_all (L : List Nat) (m : Nat) (hL : L.length = m) (a : Option Addr) (cap : Nat) (w : World) (hrd : Rd w a (bys L)) :
    Calls Try.prog 16 #[.slice a m cap] w fun e w' => e = .returned (.tuple #[agg8 (vaX L), .int .i64 (vaE m)]) ∧ Grows w w' := by
  subst hL
  by_cases h : L.length = 8
  · rw [h, vaX, if_pos h]
    exact value_yes L h a cap w hrd
  · rw [vaX, if_neg h, vaE, if_neg h]
    exact value_no a _ cap w h
theorem refValue_all (L : List Nat) (m : Nat) (hL : L.length = m) (a : Option Addr) (cap : Nat) (w : World) (hrd : Rd w a (bys L)) :
    Calls Try.prog 17 #[.slice a m cap] w fun e w' => e = .returned (.tuple #[agg8 (vaX L), .int .i64 (vaE m)]) ∧ Grows w w' := by
  subst hL
  by_cases h : L.length = 8
  · rw [h, vaX, if_pos h]
    exact refValue_yes L h a cap w hrd
  · rw [vaX, if_neg h, vaE, if_neg h]
    exact refValue_no a _ cap w h

set_option maxRecDepth 100000 in
set_option maxHeartbeats 400000 in
theorem lawValues_long (a b : Option Addr) (n ca m cb : Nat) (w : World) (h : 1000 < (n : Int) ∨ 8000 < (m : Int)) :
    Calls Try.prog 4 #[.slice a n ca, .slice b m cb] w fun e w' => e = .returned (.bool true) ∧ Grows w w' := by
  by_cases h1 : 1000 < (n : Int)
  · clear h
    go_enter Try.func4, Try.ntmps4
    go_wp2_with fail
    refine (wakes_any _).mono ?_
    rintro e w1 ⟨rfl, hb1⟩
    go_wp2_with fail
    go_ret
    exact ⟨rfl, hb1⟩
  · have h3 : 8000 < (m : Int) := by omega
    clear h
    go_enter Try.func4, Try.ntmps4
    go_wp2_with fail
    refine (wakes_any _).mono ?_
    rintro e w1 ⟨rfl, hb1⟩
    go_wp2_with fail
    go_ret
    exact ⟨rfl, hb1⟩

set_option maxRecDepth 100000 in
set_option maxHeartbeats 4000000 in
theorem lawValues_any (V : List Nat) (n : Nat) (hV : V.length = n * 8) (B : List Nat) (m : Nat) (hB : B.length = m) (a b : Option Addr) (ca cb : Nat) (w : World)
    (hra : Rd w a (bys V)) (hrb : Rd w b (bys B)) (hcb : m ≤ cb) (h1 : (n : Int) ≤ 1000) (h2 : (m : Int) ≤ 8000) :
    Calls Try.prog 4 #[.slice a n ca, .slice b m cb] w fun e w' => e = .returned (.bool true) ∧ Grows w w' := by
  have Hra := Lib.hid hra
  have Hrb := Lib.hid hrb
  have HB := Lib.hid hB
  have HV := Lib.hid hV
  clear hra hrb hB hV
  go_enter Try.func4, Try.ntmps4
  go_wp2_with fail
  have HX : Hid ((rdX B).length = rdN m * 8) := by show _ = _; rw [rdX_len, HB.out]
  have hN : rdN m ≤ 100000 := by unfold rdN; split <;> omega
  refine (readValues_all B m HB.out b cb _ Hrb.out hcb (by omega)).mono ?_
  rintro e w1 ⟨a1, c1, rfl, hr1, G1⟩
  rw [HB.out]
  have HR1 := Lib.hid hr1
  clear hr1
  go_wp2_with fail
  refine (refReadValues_all B m HB.out b cb _ (Hrb.out.grows G1) hcb (by omega)).mono ?_
  rintro e w2 ⟨a2, c2, rfl, hr2, G2⟩
  rw [HB.out]
  have HR2 := Lib.hid hr2
  have G12 := G1.trans G2
  clear hr2
  generalize rdN m = N at *
  generalize rdE m = E at *
  go_wp2_with fail
  refine (value_all B m HB.out b cb _ (Hrb.out.grows G12)).mono ?_
  obtain ⟨x0, x1, x2, x3, x4, x5, x6, x7, hC⟩ := eight (vaX_len B)
  have HC := Lib.hid hC
  clear hC
  rintro e w3 ⟨rfl, hb3⟩
  rw [HC.out]
  simp only [agg8, bys, List.map]
  have G3 := G12.trans hb3
  go_wp2_with fail
  refine (refValue_all B m HB.out b cb _ (Hrb.out.grows (G3.trans ?_))).mono ?_
  · repeat (first | exact Grows.refl _ | refine Grows.alloc ?_ _ | refine Grows.drew ?_)
  rintro e w4 ⟨rfl, hb4⟩
  rw [HC.out]
  simp only [agg8, bys, List.map]
  have A0 := (At.new w3 36 #[.int .u8 x0, .int .u8 x1, .int .u8 x2, .int .u8 x3, .int .u8 x4, .int .u8 x5, .int .u8 x6, .int .u8 x7]).grows hb4
  have A1 := A0.alloc (.cells #[.int .u8 x0, .int .u8 x1, .int .u8 x2, .int .u8 x3, .int .u8 x4, .int .u8 x5, .int .u8 x6, .int .u8 x7] 36)
  have B1 := At.new w4 36 #[.int .u8 x0, .int .u8 x1, .int .u8 x2, .int .u8 x3, .int .u8 x4, .int .u8 x5, .int .u8 x6, .int .u8 x7]
  have G4 := ((G3.alloc _).trans hb4).alloc (.cells #[.int .u8 x0, .int .u8 x1, .int .u8 x2, .int .u8 x3, .int .u8 x4, .int .u8 x5, .int .u8 x6, .int .u8 x7] 36)
  have HR1' := Lib.hid (HR1.out.grows (G2.trans (((hb3.alloc _).trans hb4).alloc (.cells #[.int .u8 x0, .int .u8 x1, .int .u8 x2, .int .u8 x3, .int .u8 x4, .int .u8 x5, .int .u8 x6, .int .u8 x7] 36))))
  have HR2' := Lib.hid (HR2.out.grows (((hb3.alloc _).trans hb4).alloc (.cells #[.int .u8 x0, .int .u8 x1, .int .u8 x2, .int .u8 x3, .int .u8 x4, .int .u8 x5, .int .u8 x6, .int .u8 x7] 36)))
  have HA := Lib.hid A1
  have HBB := Lib.hid B1
  clear A0 A1 B1 HR1 HR2 hb3 hb4 G1 G2 G12
  have HG4 := Lib.hid G4
  clear G3 G4
  go_wp2_with fail
  refine (values_any V n HV.out a ca _ (Hra.out.grows HG4.out) (by omega)).mono ?_
  rintro e w5 ⟨g5, c5, rfl, hn5⟩
  have G5 := hn5.2
  have HR5 := Lib.hid (Rd.own hn5.1)
  clear hn5
  go_wp2_with fail
  refine (refValues_any V n HV.out a ca _ (Hra.out.grows (HG4.out.trans G5)) (by omega)).mono ?_
  rintro e w6 ⟨a6, c6, rfl, hn6⟩
  have G6 := hn6.2
  have HR6 := Lib.hid (Rd.own hn6.1)
  clear hn6
  go_wp2_with fail
  refine (bytes_same V (n * 8) HV.out _ a6 c5 c6 _ (HR5.out.grows G6) HR6.out).mono ?_
  rintro e w7 ⟨rfl, rfl⟩
  go_wp2_with fail
  refine (values_same (rdX B) N HX.out a1 a2 c1 c2 _ (HR1'.out.grows (G5.trans G6)) (HR2'.out.grows (G5.trans G6)) hN).mono ?_
  rintro e w7 ⟨rfl, G7⟩
  have hA := (HA.out.grows ((G5.trans G6).trans G7)).cell
  have hB := (HBB.out.grows ((G5.trans G6).trans G7)).cell
  have HGG := Lib.hid (HG4.out.trans ((G5.trans G6).trans G7))
  have he := eq8
  clear G5 G6 G7
  go_wp2_with fail
  refine (wakes_any _).mono ?_
  rintro e w8 ⟨rfl, hg8⟩
  go_wp2_with fail
  go_ret
  exact ⟨rfl, HGG.out.trans hg8⟩

theorem lawValues (V : List Nat) (n : Nat) (hV : V.length = n * 8) (B : List Nat) (m : Nat) (hB : B.length = m) (a b : Option Addr) (ca cb : Nat) (w : World)
    (hra : Rd w a (bys V)) (hrb : Rd w b (bys B)) (hcb : m ≤ cb) :
    Calls Try.prog 4 #[.slice a n ca, .slice b m cb] w fun e w' => e = .returned (.bool true) ∧ Grows w w' := by
  by_cases h : 1000 < (n : Int) ∨ 8000 < (m : Int)
  · exact lawValues_long a b n ca m cb w h
  · exact lawValues_any V n hV B m hB a b ca cb w hra hrb hcb (by omega) (by omega)

end Go.Proofs.Ytddignaaggdliaa
