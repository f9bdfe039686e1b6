/-
  pack.Value, the law's own 'wakes', and PackNumbers.
-/
import Derived.Test.YtddignaaggdliaaPackR
import Derived.Laws.CopyOwn
import Derived.Lib.SlBytesConst
namespace Go.Proofs.Ytddignaaggdliaa
open Go.RowKit

/-- Eight cells: a block's value. -/
def agg8 (l : List Nat) : Value := .agg (bys l).toArray
def zero8 : List Nat := [0, 0, 0, 0, 0, 0, 0, 0]
theorem eight {l : List Nat} (h : l.length = 8) : ∃ a b c d e f g i, l = [a, b, c, d, e, f, g, i] := by
  match l, h with
  | [a, b, c, d, e, f, g, i], _ => exact ⟨a, b, c, d, e, f, g, i, rfl⟩
theorem u8_size : (Try.prog.info? 5).map (·.size) = some 1 := by kernel_rfl

set_option maxHeartbeats 400000 in
theorem value_no (a : Option Addr) (n cap : Nat) (w : World) (h : n ≠ 8) : Calls Try.prog 16 #[.slice a n cap] w fun e w' => e = .returned (.tuple #[agg8 zero8, .int .i64 2]) ∧ Grows w w' := by
  have h' : ((n : Int) != 8) = true := by simp; omega
  go_enter Try.func16, Try.ntmps16
  go_wp2
  refine bodyPost_ret (v := .tuple #[agg8 zero8, .int .i64 2]) (by simp [agg8, zero8, bys, results, Try.results16, go_sem]) rfl ⟨rfl, ?_⟩
  repeat (first | exact Grows.refl _ | refine Grows.alloc ?_ _ | refine Grows.drew ?_)

set_option maxHeartbeats 1000000 in
theorem value_yes (l : List Nat) (hl : l.length = 8) (a : Option Addr) (cap : Nat) (w : World) (hrd : Rd w a (bys l)) : Calls Try.prog 16 #[.slice a 8 cap] w fun e w' => e = .returned (.tuple #[agg8 l, .int .i64 0]) ∧ Grows w w' := by
  obtain ⟨x0, x1, x2, x3, x4, x5, x6, x7, rfl⟩ := eight hl
  clear hl
  obtain ⟨b, off, rfl, hbw, hc⟩ := hrd.at (by simp [bys])
  have Hrd := Lib.hid hrd
  clear hc hrd
  go_enter Try.func16, Try.ntmps16
  go_wp2_with (refine wpList_copy_splice rfl (.tmp 9) (.tmp 10) 22 22 rfl 5 Try.underlying22 u8_size (some ⟨w.heap.size + 1, 0, none⟩) (some ⟨b, off, none⟩) 8 8 8 cap rfl rfl (w.heap.size + 1) 0 [.int .u8 0, .int .u8 0, .int .u8 0, .int .u8 0, .int .u8 0, .int .u8 0, .int .u8 0, .int .u8 0] 36 ?c1 (bys [x0, x1, x2, x3, x4, x5, x6, x7]) ?c0 ?c2 ?c3 (bys_one _) (w.heap.size + 1) ((w.alloc (.cells #[.int .u8 0, .int .u8 0, .int .u8 0, .int .u8 0, .int .u8 0, .int .u8 0, .int .u8 0, .int .u8 0] 36)).alloc (.cells #[.int .u8 0, .int .u8 0, .int .u8 0, .int .u8 0, .int .u8 0, .int .u8 0, .int .u8 0, .int .u8 0] 36)) (Below.refl _ _) (Nat.le_refl _) ?_)
  case c0 => rfl
  case c3 => simp [bys]
  case c1 => have h := At.new (w.alloc (.cells #[.int .u8 0, .int .u8 0, .int .u8 0, .int .u8 0, .int .u8 0, .int .u8 0, .int .u8 0, .int .u8 0] 36)) 36 #[.int .u8 0, .int .u8 0, .int .u8 0, .int .u8 0, .int .u8 0, .int .u8 0, .int .u8 0, .int .u8 0]; rw [World.size_alloc] at h; exact h
  case c2 =>
    rcases Hrd.out with h | ⟨b', off', h, _, hc⟩
    · simp [bys] at h
    · injection h with h
      injection h with h1 h2
      subst h1 h2
      exact fun _ => hc
  intro w1 hat hb1
  have ha1 : At w1 (w.heap.size + 1) 36 #[.int .u8 x0, .int .u8 x1, .int .u8 x2, .int .u8 x3, .int .u8 x4, .int .u8 x5, .int .u8 x6, .int .u8 x7] := hat.out
  have ha0 : At w1 w.heap.size 36 #[.int .u8 0, .int .u8 0, .int .u8 0, .int .u8 0, .int .u8 0, .int .u8 0, .int .u8 0, .int .u8 0] := (hb1.block _ (by omega)).trans ((At.new w _ _).alloc _)
  have hg : Grows w w1 := Below.trans (((Grows.refl w).alloc _).alloc _) (hb1.mono (by omega))
  have hc1 := ha1.cell
  have hc0 := ha0.cell
  have hf0 := ha0.frozen
  go_wp2_with fail
  refine bodyPost_ret (v := .tuple #[agg8 [x0, x1, x2, x3, x4, x5, x6, x7], .int .i64 0]) (by simp [agg8, bys, results, Try.results16, go_sem, hc0]) rfl ⟨rfl, ?_⟩
  exact ((((((((hg.setCell (Nat.le_refl _) _).setCell (Nat.le_refl _) _).setCell (Nat.le_refl _) _).setCell (Nat.le_refl _) _).setCell (Nat.le_refl _) _).setCell (Nat.le_refl _) _).setCell (Nat.le_refl _) _).setCell (Nat.le_refl _) _)


/-- An owned row of bytes, its cells one by one. -/
theorem own_cells {w : World} {base : Nat} {e : TypeId} {g n c : Nat} {l : List Nat} (h : w.ownsRow base e 1 (.slice (some ⟨g, 0, none⟩) n c) n (bys l)) (i : Nat) (hi : i < l.length) : w.cell? ⟨g, i, none⟩ = some (.int .u8 (l[i] : Int)) := by
  have hl : l.length = n := by have := h.1; rw [bys_length] at this; omega
  rw [h.cellAt i (by omega), List.getElem?_eq_getElem (by rw [bys_length]; exact hi), bys_at l i hi]

set_option maxHeartbeats 1000000 in
theorem wakes_any (w : World) : Calls Try.prog 6 #[] w fun e w' => e = .returned (.bool true) ∧ Grows w w' := by
  have kc := fun (w : World) (C : Array Value) (n c : Nat) => Lib.run_convert_bytes_const (P := Try.prog) w 22 5 C n c Try.underlying22 Try.underlying5
  go_enter Try.func6, Try.ntmps6
  go_wp2_with fail
  refine (put_yes [] 0 rfl 258 3 none 0 _ (.inl rfl) (by decide) (by omega)).mono ?_
  rintro e w1 ⟨v, rfl, a1, c1, hv, hown1⟩
  have hd : ([] ++ digits 258 3 : List Nat) = [2, 1, 0] := by decide
  rw [hd] at hv hown1
  obtain ⟨g, c2, hf, hgw, hgl⟩ := own_form hown1.1 (by decide)
  injection hf with hf1 hf2 hf3
  subst hf1 hf3 hv
  have hc0 := own_cells hown1.1 0 (by decide)
  have hc1 := own_cells hown1.1 1 (by decide)
  have hc2 := own_cells hown1.1 2 (by decide)
  simp only [List.getElem_cons_zero, List.getElem_cons_succ] at hc0 hc1 hc2
  have Hrd := Lib.hid (Rd.own hown1.1)
  have hg1 := hown1.2
  clear hown1
  simp only [List.length_cons, List.length_nil]
  go_wp2_with fail
  refine (get_num [2, 1, 0] 3 rfl _ _ 0 2 _ (by decide) Hrd.out (by omega) (by omega) (by omega) (by omega)).mono ?_
  rintro e w2 ⟨rfl, rfl⟩
  have hnum : num (([2, 1, 0] : List Nat).drop 0 |>.take 2) = 258 := by decide
  rw [hnum]
  go_wp2_with fail
  refine (value_yes [49, 50, 51, 52, 53, 54, 55, 56] rfl _ _ _ ?_).mono ?_
  · refine .inr ⟨w1.heap.size, 0, rfl, by simp, fun i v hv => ?_⟩
    rw [World.cell?_alloc_mark, Nat.zero_add, ← hv]
    simp [bys]
  rintro e w3 ⟨rfl, hg3⟩
  have r3 := fun o => hg3.cell g o (by simp; omega)
  have hgl' : g < w1.heap.size + 1 := by omega
  have hgl3 : g < w3.heap.size := by have := hg3.size; simp at this; omega
  have d0 := (r3 0).trans (World.cell?_alloc_lt _ _ _ hgl)
  have d1 := (r3 1).trans (World.cell?_alloc_lt _ _ _ hgl)
  have d2 := (r3 2).trans (World.cell?_alloc_lt _ _ _ hgl)
  rw [hc0] at d0
  rw [hc1] at d1
  rw [hc2] at d2
  clear r3 hc0 hc1 hc2
  simp only [agg8, bys, List.map_cons, List.map_nil]
  go_wp2_with fail
  go_ret
  exact ⟨rfl, ((hg1.alloc _).trans hg3).alloc _⟩


/-- Bytes X and an error are answered. -/
def PutSome (w : World) (X : List Nat) (E : Int) (e : Ending) (w' : World) : Prop := ∃ a c, e = .returned (.tuple #[.slice a X.length c, .int .i64 E]) ∧ Rd w' a (bys X) ∧ Grows w w'
def putX (l : List Nat) (n w0 : Int) : List Nat := if fitsB n w0 then l ++ digits n.toNat w0.toNat else []
def putE (n w0 : Int) : Int := if fitsB n w0 then 0 else 2
theorem putSome_no {w : World} {l : List Nat} {n w0 : Int} (h : fitsB n w0 = false) {e : Ending} {w' : World} (h1 : e = .returned (.tuple #[.slice none 0 0, .int .i64 2])) (h2 : w = w') : PutSome w (putX l n w0) (putE n w0) e w' := by
  subst h2
  have h3 : ¬ fitsB n w0 = true := by simp [h]
  refine ⟨none, 0, ?_, ?_, Grows.refl _⟩
  · rw [putX, if_neg h3, putE, if_neg h3]; exact h1
  · rw [putX, if_neg h3]; exact .inl rfl
theorem putSome_yes {w : World} {l : List Nat} {n k : Nat} (h : fitsB n k = true) {e : Ending} {w' : World} (h1 : ∃ v, e = .returned (.tuple #[v, .int .i64 0]) ∧ NewBy w (l ++ digits n k) v w') : PutSome w (putX l n k) (putE n k) e w' := by
  obtain ⟨v, he, a, c, hv, hn⟩ := h1
  subst hv
  rw [putX, if_pos h, putE, if_pos h, Int.toNat_natCast, Int.toNat_natCast]
  exact ⟨a, c, he, Rd.own hn.1, hn.2⟩
theorem put_all (l : List Nat) (len : Nat) (hn : l.length = len) (n w0 : Int) (a : Option Addr) (cap : Nat) (w : World) (hrd : Rd w a (bys l)) (hl : len ≤ 100000) :
    Calls Try.prog 7 #[.slice a len cap, .int .i64 n, .int .i64 w0] w (PutSome w (putX l n w0) (putE n w0)) := by
  cases h : fitsB n w0 with
  | false => exact (put_no n w0 a len cap w h).mono fun e w' h1 => putSome_no h h1.1 h1.2
  | true =>
    obtain ⟨h1, h2, h3, _⟩ := (fitsB_iff _ _).1 h
    obtain ⟨N, rfl⟩ := Int.eq_ofNat_of_zero_le h3
    obtain ⟨k, rfl⟩ := Int.eq_ofNat_of_zero_le (by omega : 0 ≤ w0)
    exact (put_yes l len hn N k a cap w hrd h hl).mono fun e w' h1 => putSome_yes h h1
theorem refPut_all (l : List Nat) (len : Nat) (hn : l.length = len) (n w0 : Int) (a : Option Addr) (cap : Nat) (w : World) (hrd : Rd w a (bys l)) (hl : len ≤ 100000) :
    Calls Try.prog 8 #[.slice a len cap, .int .i64 n, .int .i64 w0] w (PutSome w (putX l n w0) (putE n w0)) := by
  cases h : fitsB n w0 with
  | false => exact (refPut_no n w0 a len cap w h).mono fun e w' h1 => putSome_no h h1.1 h1.2
  | true =>
    obtain ⟨h1, h2, h3, _⟩ := (fitsB_iff _ _).1 h
    obtain ⟨N, rfl⟩ := Int.eq_ofNat_of_zero_le h3
    obtain ⟨k, rfl⟩ := Int.eq_ofNat_of_zero_le (by omega : 0 ≤ w0)
    exact (refPut_yes l len hn N k a cap w hrd h hl).mono fun e w' h1 => putSome_yes h h1
theorem get_all (l : List Nat) (len : Nat) (hn : l.length = len) (at_ w0 : Int) (a : Option Addr) (cap : Nat) (w : World) (hb : ∀ x ∈ l, x < 256) (hrd : Rd w a (bys l)) (hl : len ≤ 9223372036854775807) :
    Calls Try.prog 9 #[.slice a len cap, .int .i64 at_, .int .i64 w0] w fun e w' => e = .returned (getV (getF l at_ w0)) ∧ w = w' := by
  subst hn
  by_cases h : w0 < 1 ∨ 6 < w0
  · rw [getF_arg l at_ w0 h]; exact get_arg a _ cap at_ w0 w h
  · by_cases h2 : at_ < 0 ∨ (l.length : Int) - w0 < at_
    · rw [getF_code l at_ w0 h h2]; exact get_code a _ cap at_ w0 w (by omega) (by omega) h2 hl
    · obtain ⟨A, rfl⟩ := Int.eq_ofNat_of_zero_le (by omega : 0 ≤ at_)
      obtain ⟨k, rfl⟩ := Int.eq_ofNat_of_zero_le (by omega : 0 ≤ w0)
      rw [getF_num l A k (by omega) (by omega) (by omega)]
      exact get_num l _ rfl a cap A k w hb hrd (by omega) (by omega) (by omega) hl
theorem refGet_all (l : List Nat) (len : Nat) (hn : l.length = len) (at_ w0 : Int) (a : Option Addr) (cap : Nat) (w : World) (hb : ∀ x ∈ l, x < 256) (hrd : Rd w a (bys l)) (hl : len ≤ 9223372036854775807) :
    Calls Try.prog 10 #[.slice a len cap, .int .i64 at_, .int .i64 w0] w fun e w' => e = .returned (getV (getF l at_ w0)) ∧ w = w' := by
  subst hn
  by_cases h : w0 < 1 ∨ 6 < w0
  · rw [getF_arg l at_ w0 h]; exact refGet_arg a _ cap at_ w0 w h
  · by_cases h2 : at_ < 0 ∨ (l.length : Int) - w0 < at_
    · rw [getF_code l at_ w0 h h2]; exact refGet_code a _ cap at_ w0 w (by omega) (by omega) h2 hl
    · obtain ⟨A, rfl⟩ := Int.eq_ofNat_of_zero_le (by omega : 0 ≤ at_)
      obtain ⟨k, rfl⟩ := Int.eq_ofNat_of_zero_le (by omega : 0 ≤ w0)
      rw [getF_num l A k (by omega) (by omega) (by omega)]
      exact refGet_num l _ rfl a cap A k w hb hrd (by omega) (by omega) (by omega) hl

set_option maxHeartbeats 400000 in
theorem lawNumbers_long (a : Option Addr) (n cap : Nat) (x y z : Int) (w : World) (h : 5000 < (n : Int)) :
    Calls Try.prog 3 #[.slice a n cap, .int .i64 x, .int .i64 y, .int .i64 z] w fun e w' => e = .returned (.bool true) ∧ Grows w w' := by
  go_enter Try.func3, Try.ntmps3
  go_wp2_with fail
  refine (wakes_any _).mono ?_
  rintro e w1 ⟨rfl, hb1⟩
  go_wp2_with fail
  go_ret
  exact ⟨rfl, hb1⟩

set_option maxHeartbeats 1000000 in
theorem lawNumbers_any (l : List Nat) (n : Nat) (hn : l.length = n) (a : Option Addr) (cap : Nat) (x y z : Int) (w : World) (hb : ∀ x ∈ l, x < 256) (hrd : Rd w a (bys l)) (h : (n : Int) ≤ 5000) :
    Calls Try.prog 3 #[.slice a n cap, .int .i64 x, .int .i64 y, .int .i64 z] w fun e w' => e = .returned (.bool true) ∧ Grows w w' := by
  have C1 := fun W (h : Grows w W) => Lib.hid (put_all l n hn x y a cap W (hrd.grows h) (by omega))
  have C2 := fun W (h : Grows w W) => Lib.hid (refPut_all l n hn x y a cap W (hrd.grows h) (by omega))
  have C3 := fun W (h : Grows w W) => Lib.hid (get_all l n hn z y a cap W hb (hrd.grows h) (by omega))
  have C4 := fun W (h : Grows w W) => Lib.hid (refGet_all l n hn z y a cap W hb (hrd.grows h) (by omega))
  clear hn hb hrd
  generalize putX l x y = X at *
  generalize putE x y = E at *
  generalize hN : getF l z y = N at *
  obtain ⟨N1, N2⟩ := N
  clear hN
  generalize hXl : X.length = m at *
  have Hm := Lib.hid hXl
  clear hXl
  go_enter Try.func3, Try.ntmps3
  go_wp2_with fail
  refine (C1 _ (Grows.refl _)).out.mono ?_
  rintro e w1 ⟨a1, c1, rfl, hr1, hg1⟩
  rw [Hm.out]
  go_wp2_with fail
  refine (C2 _ hg1).out.mono ?_
  rintro e w2 ⟨a2, c2, rfl, hr2, hg2⟩
  rw [Hm.out]
  have G2 := hg1.trans hg2
  go_wp2_with fail
  refine (C3 _ G2).out.mono ?_
  rintro e w3 ⟨rfl, rfl⟩
  simp only [getV]
  go_wp2_with fail
  refine (C4 _ G2).out.mono ?_
  rintro e w3 ⟨rfl, rfl⟩
  simp only [getV]
  go_wp2_with fail
  refine (bytes_same X m Hm.out _ _ _ _ _ (hr1.grows hg2) hr2).mono ?_
  rintro e w3 ⟨rfl, rfl⟩
  clear hr1 hr2
  go_wp2_with fail
  refine (fits_any _ _ _).mono ?_
  rintro e w3 ⟨rfl, rfl⟩
  go_wp2_with fail
  refine (refFits_any _ _ _).mono ?_
  rintro e w3 ⟨rfl, rfl⟩
  go_wp2_with fail
  refine (wakes_any _).mono ?_
  rintro e w4 ⟨rfl, hg4⟩
  go_wp2_with fail
  go_ret
  exact ⟨rfl, G2.trans hg4⟩

theorem lawNumbers (l : List Nat) (n : Nat) (hn : l.length = n) (a : Option Addr) (cap : Nat) (x y z : Int) (w : World) (hb : ∀ x ∈ l, x < 256) (hrd : Rd w a (bys l)) :
    Calls Try.prog 3 #[.slice a n cap, .int .i64 x, .int .i64 y, .int .i64 z] w fun e w' => e = .returned (.bool true) ∧ Grows w w' := by
  by_cases h : 5000 < (n : Int)
  · exact lawNumbers_long a n cap x y z w h
  · exact lawNumbers_any l n hn a cap x y z w hb hrd (by omega)

end Go.Proofs.Ytddignaaggdliaa
