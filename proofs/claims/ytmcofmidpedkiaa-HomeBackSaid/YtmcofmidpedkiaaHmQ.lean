/-
  GetSuper of one superblock, of two; SameValues.
-/
import Derived.Test.YtmcofmidpedkiaaHmN
import Derived.Test.YtmcofmidpedkiaaHmT
namespace Go.Proofs.Ytmcofmidpedkiaa
open Go.RowKit Go.Maps

theorem sl_head (s : Sup) : s.l[0]?.getD 0 = (s.n : Int) := rfl
section
variable {w : World} {B : Nat} {O : Nat → Prop} {g : Nat} {dur : List Nat} {C : Nat → List (List Nat)}
theorem gs_one (h : Dk w B O g dur C false) (hC : ∀ x, x < 34 → (C x).length ≤ 1000000) (s : Sup) (hm : s.may = true) (k k' : Nat) (hk : s.n % 2 = k) (hk' : k' = 1 - k) (h1 : rdS dur C k = s.sec) (h2 : zerosB (rdS dur C k') = true) :
    Calls Try.prog 13 #[.pointer (some ⟨g, 0, none⟩)] w fun e w' => e = .returned (.tuple #[s.v, .int .i64 0]) ∧ Grows w w' := by
  refine gs_sup h hC (fun j => if j = k then some s else none) ?_ s ?_
  · intro j hj
    by_cases e : j = k
    · subst e
      rw [if_pos rfl]
      exact ⟨h1, hm, hk⟩
    · rw [if_neg e]
      have : j = k' := by omega
      subst this
      exact h2
  · have hz := s.sec_z hm
    have : k = 0 ∨ k = 1 := by omega
    rcases this with rfl | rfl
    · subst hk'
      simp only [bst, h2, h1, hz, supL]
      simp
    · subst hk'
      simp only [bst, h2, h1, hz, supL]
      simp
theorem gs_two (h : Dk w B O g dur C false) (hC : ∀ x, x < 34 → (C x).length ≤ 1000000) (a s : Sup) (ha : a.may = true) (hm : s.may = true) (hn : s.n = a.n + 1) (k k' : Nat) (hk : s.n % 2 = k) (hk' : a.n % 2 = k') (h1 : rdS dur C k = s.sec) (h2 : rdS dur C k' = a.sec) :
    Calls Try.prog 13 #[.pointer (some ⟨g, 0, none⟩)] w fun e w' => e = .returned (.tuple #[s.v, .int .i64 0]) ∧ Grows w w' := by
  refine gs_sup h hC (fun j => if j = k then some s else some a) ?_ s ?_
  · intro j hj
    by_cases e : j = k
    · subst e
      rw [if_pos rfl]
      exact ⟨h1, hm, hk⟩
    · rw [if_neg e]
      have : j = k' := by omega
      subst this
      exact ⟨h2, ha, hk'⟩
  · have hz := s.sec_z hm
    have hz2 := a.sec_z ha
    have : k = 0 ∧ k' = 1 ∨ k = 1 ∧ k' = 0 := by omega
    rcases this with ⟨rfl, rfl⟩ | ⟨rfl, rfl⟩
    · simp only [bst, h2, h1, hz, hz2, supL]
      simp [sl_head]
      omega
    · simp only [bst, h2, h1, hz, hz2, supL]
      simp [sl_head]
      omega
end

theorem eq8_self (W : World) (x0 x1 x2 x3 x4 x5 x6 x7 : Nat) : (Op.equalIn 10000 35 (.agg #[.int .u8 x0, .int .u8 x1, .int .u8 x2, .int .u8 x3, .int .u8 x4, .int .u8 x5, .int .u8 x6, .int .u8 x7]) (.agg #[.int .u8 x0, .int .u8 x1, .int .u8 x2, .int .u8 x3, .int .u8 x4, .int .u8 x5, .int .u8 x6, .int .u8 x7])).run Try.prog W = .ok true W := by
  have := eq_flat_agg (P := Try.prog) W 2 35 _ flat8 (by omega) (fun _ => rfl) _ _ (kinds_bys [x0, x1, x2, x3, x4, x5, x6, x7]) (kinds_bys [x0, x1, x2, x3, x4, x5, x6, x7])
  rw [(cellsEq_iff (kinds_bys [x0, x1, x2, x3, x4, x5, x6, x7]) (kinds_bys [x0, x1, x2, x3, x4, x5, x6, x7])).2 rfl] at this
  exact this
set_option maxHeartbeats 1000000 in
theorem same_any (L : List Nat) (hL : L.length = 32) (b off c b' off' c' : Nat) (w : World) (h : Rd w (some ⟨b, off, none⟩) (bys L)) (h' : Rd w (some ⟨b', off', none⟩) (bys L)) :
    Calls Try.prog 15 #[.slice (some ⟨b, off, none⟩) 4 c, .slice (some ⟨b', off', none⟩) 4 c'] w fun e w' => e = .returned (.bool true) ∧ Grows w w' := by
  have HR := Lib.hid h
  have HR' := Lib.hid h'
  have HL := Lib.hid hL
  clear h h' hL
  go_enter Try.func15, Try.ntmps15
  go_wp2_with fail
  go_loopg [5] 4 (fun gh i wr => ∃ (k : Nat), k + gh = 4 ∧ i = .int .i64 (k : Int) ∧ Grows w wr)
  case atStart => exact ⟨0, by omega, rfl, Grows.refl _⟩
  case round =>
    obtain ⟨k, hk, rfl, hgr⟩ := hrel
    have HG := Lib.hid hgr
    clear hgr
    by_cases hlt : k < 4
    · have hlt' : (k : Int) < 4 := by omega
      have hk0 : (0 : Int) ≤ (k : Int) := by omega
      have hvl : (vc L k).length = 8 := by have := HL.out; simp [vc]; omega
      obtain ⟨x0, x1, x2, x3, x4, x5, x6, x7, hv⟩ := eight hvl
      obtain ⟨hbl, hc⟩ := vc_cells (HR.out.grows HG.out) k hv
      obtain ⟨hbl', hc'⟩ := vc_cells (HR'.out.grows HG.out) k hv
      have c0 := hc 0 _ rfl
      have c1 := hc 1 _ rfl
      have c2 := hc 2 _ rfl
      have c3 := hc 3 _ rfl
      have c4 := hc 4 _ rfl
      have c5 := hc 5 _ rfl
      have c6 := hc 6 _ rfl
      have c7 := hc 7 _ rfl
      rw [Nat.add_zero] at c0
      have d0 := hc' 0 _ rfl
      have d1 := hc' 1 _ rfl
      have d2 := hc' 2 _ rfl
      have d3 := hc' 3 _ rfl
      have d4 := hc' 4 _ rfl
      have d5 := hc' 5 _ rfl
      have d6 := hc' 6 _ rfl
      have d7 := hc' 7 _ rfl
      rw [Nat.add_zero] at d0
      have he := fun W => eq8_self W x0 x1 x2 x3 x4 x5 x6 x7
      clear hc hc' hv hvl
      go_wp2_with fail
      go_region
      go_wp2_with fail
      go_roundg (gk - 1)
      case measure => omega
      case rel => exact ⟨k + 1, by omega, by go_num, HG.out.drew⟩
    · obtain rfl : k = 4 := by omega
      go_wp2_with fail
      go_ret
      exact ⟨rfl, HG.out⟩
end Go.Proofs.Ytmcofmidpedkiaa
