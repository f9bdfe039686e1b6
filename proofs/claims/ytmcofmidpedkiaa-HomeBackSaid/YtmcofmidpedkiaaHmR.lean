/-
  What PutSuper leaves for GetSuper; what Put leaves for Get.
-/
import Derived.Test.YtmcofmidpedkiaaHmQ
namespace Go.Proofs.Ytmcofmidpedkiaa
open Go.RowKit Go.Maps

theorem rdS_same {dur : List Nat} {C C' : Nat → List (List Nat)} {k : Nat} (h : C k = C' k) : rdS dur C k = rdS dur C' k := by unfold rdS; rw [h]
theorem zerosB_zer {C : Nat → List (List Nat)} {k : Nat} (h : C k = []) (hk : k < 34) : zerosB (rdS zer C k) = true := by
  rw [show rdS zer C k = rdS zer noC k from rdS_same h, rd_zer k hk]
  exact zerosB_rep 64
theorem get_zero {L : List Nat} (hL : L.length = 32) (h : zerosB (pad (sealBy L)) = true) : L = List.replicate 32 0 := by
  unfold zerosB at h
  rw [List.all_eq_true] at h
  rw [List.eq_replicate_iff]
  exact ⟨hL, fun x hx => by
    have := h x (by unfold pad sealBy; simp [hx])
    simpa using this⟩
section
variable {w : World} {B : Nat} {O : Nat → Prop} {g : Nat} {dur : List Nat} {C : Nat → List (List Nat)}
/-- Get where a home was put. -/
theorem get_put (h : Dk w B O g dur C false) (st : Nat) (hst : st < 8) (hC : (C (26 + st)).length ≤ 1000000) (L : List Nat) (hL : L.length = 32) (hb : ∀ x ∈ L, x < 256) (hr : rdS dur C (26 + st) = pad (sealBy L)) :
    Calls Try.prog 12 #[.pointer (some ⟨g, 0, none⟩), .int .i64 (st : Int)] w (Blk w L) := by
  refine (get_ok h st hst hC (by rw [hr]; exact padl_lt _ (seal_lt L hb))).mono ?_
  intro e w' hp
  rw [hr] at hp
  have hs : sealedB (pad (sealBy L)) 36 = true := sealed_pad L 36 (by rw [hL]) (by omega)
  have ht : (pad (sealBy L)).take 32 = L := by have := take_pad L; rwa [hL] at this
  rcases hp with ⟨h1, h2⟩ | ⟨_, _, h2⟩ | ⟨_, h1, _⟩
  · rwa [get_zero hL h1]
  · rwa [ht] at h2
  · rw [hs] at h1; cases h1
/-- What GetSuper says after a PutSuper of s on a disk without superblocks. -/
def GetsV (g : Nat) (B : Nat) (dur : List Nat) (C' : Nat → List (List Nat)) (n t u i b o0 o1 o2 o3 o4 o5 o6 o7 : Int) : Prop := ∀ W O2 C2, Dk W B O2 g dur C2 false → (∀ x, x < 2 → C2 x = C' x) → (∀ x, x < 34 → (C2 x).length ≤ 1000000) →
  Calls Try.prog 13 #[.pointer (some ⟨g, 0, none⟩)] W fun e w' => e = .returned (.tuple #[supv n t u i b o0 o1 o2 o3 o4 o5 o6 o7, .int .i64 0]) ∧ Grows W w'
theorem may_nat (n t u i b o0 o1 o2 o3 o4 o5 o6 o7 : Int) (h : mayB n t u i b [o0, o1, o2, o3, o4, o5, o6, o7] = true) : ∃ s : Sup, s.may = true ∧ n = s.n ∧ t = s.t ∧ u = s.u ∧ i = s.i ∧ b = s.b ∧ o0 = s.o0 ∧ o1 = s.o1 ∧ o2 = s.o2 ∧ o3 = s.o3 ∧ o4 = s.o4 ∧ o5 = s.o5 ∧ o6 = s.o6 ∧ o7 = s.o7 := by
  have h' := h
  unfold mayB at h'
  simp only [Bool.and_eq_true, inB_iff, List.all_cons, List.all_nil] at h'
  obtain ⟨n, rfl⟩ : ∃ z : Nat, n = z := ⟨n.toNat, by omega⟩
  obtain ⟨t, rfl⟩ : ∃ z : Nat, t = z := ⟨t.toNat, by omega⟩
  obtain ⟨u, rfl⟩ : ∃ z : Nat, u = z := ⟨u.toNat, by omega⟩
  obtain ⟨i, rfl⟩ : ∃ z : Nat, i = z := ⟨i.toNat, by omega⟩
  obtain ⟨b, rfl⟩ : ∃ z : Nat, b = z := ⟨b.toNat, by omega⟩
  obtain ⟨o0, rfl⟩ : ∃ z : Nat, o0 = z := ⟨o0.toNat, by omega⟩
  obtain ⟨o1, rfl⟩ : ∃ z : Nat, o1 = z := ⟨o1.toNat, by omega⟩
  obtain ⟨o2, rfl⟩ : ∃ z : Nat, o2 = z := ⟨o2.toNat, by omega⟩
  obtain ⟨o3, rfl⟩ : ∃ z : Nat, o3 = z := ⟨o3.toNat, by omega⟩
  obtain ⟨o4, rfl⟩ : ∃ z : Nat, o4 = z := ⟨o4.toNat, by omega⟩
  obtain ⟨o5, rfl⟩ : ∃ z : Nat, o5 = z := ⟨o5.toNat, by omega⟩
  obtain ⟨o6, rfl⟩ : ∃ z : Nat, o6 = z := ⟨o6.toNat, by omega⟩
  obtain ⟨o7, rfl⟩ : ∃ z : Nat, o7 = z := ⟨o7.toNat, by omega⟩
  exact ⟨⟨n, t, u, i, b, o0, o1, o2, o3, o4, o5, o6, o7⟩, h, rfl, rfl, rfl, rfl, rfl, rfl, rfl, rfl, rfl, rfl, rfl, rfl, rfl⟩
theorem ps_then (h : Dk w B O g zer C false) (hC : ∀ x, x < 2 → C x = []) (hl : ∀ x, (C x).length ≤ 1000) (n t u i b o0 o1 o2 o3 o4 o5 o6 o7 : Int) :
    ∃ er m0 m1 m2 m3 m4 p0 p1 p2 p3 p4 p5 p6 p7 : Int, (er = 0 ∨ (er = 2 ∧ [m0, m1, m2, m3, m4, p0, p1, p2, p3, p4, p5, p6, p7] = [0, 1, 0, 0, 1, 0, 0, 0, 0, 0, 0, 0, 0])) ∧
      Calls Try.prog 14 #[.pointer (some ⟨g, 0, none⟩), supv n t u i b o0 o1 o2 o3 o4 o5 o6 o7] w fun e w' => e = .returned (.int .i64 er) ∧ ∃ O' C', Dk w' B O' g zer C' false ∧ Turns O w w' O' ∧ (∀ x, 2 ≤ x → C' x = C x) ∧ (∀ x, (C' x).length ≤ 1001) ∧ GetsV g B zer C' m0 m1 m2 m3 m4 p0 p1 p2 p3 p4 p5 p6 p7 := by
  cases hm : mayB n t u i b [o0, o1, o2, o3, o4, o5, o6, o7] with
  | false =>
    refine ⟨2, 0, 1, 0, 0, 1, 0, 0, 0, 0, 0, 0, 0, 0, .inr ⟨rfl, rfl⟩, (ps_bad n t u i b o0 o1 o2 o3 o4 o5 o6 o7 hm w g).mono ?_⟩
    rintro e w' ⟨rfl, hG⟩
    refine ⟨rfl, O, C, h.grows hG, (Turns.refl O w).grows hG, fun _ _ => rfl, fun x => by have := hl x; omega, ?_⟩
    intro W O2 C2 hD hs hc
    exact gs_zero hD hc fun k hk => zerosB_zer (by rw [hs k hk, hC k hk]) (by omega)
  | true =>
    obtain ⟨s, hs, rfl, rfl, rfl, rfl, rfl, rfl, rfl, rfl, rfl, rfl, rfl, rfl, rfl⟩ := may_nat n t u i b o0 o1 o2 o3 o4 o5 o6 o7 hm
    refine ⟨0, s.n, s.t, s.u, s.i, s.b, s.o0, s.o1, s.o2, s.o3, s.o4, s.o5, s.o6, s.o7, .inl rfl, (ps_ok h s.n s.t s.u s.i s.b s.o0 s.o1 s.o2 s.o3 s.o4 s.o5 s.o6 s.o7 hs (by have := hl (s.n % 2); omega)).mono ?_⟩
    rintro e w' ⟨rfl, O', hD, hT⟩
    refine ⟨rfl, O', _, hD, hT, fun x hx => upC_other C (by omega) _, fun x => ?_, ?_⟩
    · have := hl x
      by_cases e : x = s.n % 2
      · subst e
        rw [upC_same, List.length_append, List.length_singleton]
        omega
      · rw [upC_other C e]; omega
    · intro W O2 C2 hD2 hs2 hc
      refine gs_one hD2 hc s hs (s.n % 2) (1 - s.n % 2) rfl rfl ?_ ?_
      · rw [rdS_same (hs2 _ (by omega)), rdS_upx]
        rfl
      · refine zerosB_zer ?_ (by omega)
        rw [hs2 _ (by omega), upC_other C (by omega), hC _ (by omega)]
end
end Go.Proofs.Ytmcofmidpedkiaa
