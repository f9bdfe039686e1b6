/-
  home.GetSuper where superblocks were put.
-/
import Derived.Test.YtmcofmidpedkiaaHmM
import Derived.Test.YtmcofmidpedkiaaHmP
namespace Go.Proofs.Ytmcofmidpedkiaa
open Go.RowKit Go.Maps

/-- A superblock. -/
structure Sup where
  n : Nat
  t : Nat
  u : Nat
  i : Nat
  b : Nat
  o0 : Nat
  o1 : Nat
  o2 : Nat
  o3 : Nat
  o4 : Nat
  o5 : Nat
  o6 : Nat
  o7 : Nat
def Sup.M (s : Sup) : List Nat := [s.o0, s.o1, s.o2, s.o3, s.o4, s.o5, s.o6, s.o7]
def Sup.v (s : Sup) : Value := supv s.n s.t s.u s.i s.b s.o0 s.o1 s.o2 s.o3 s.o4 s.o5 s.o6 s.o7
def Sup.l (s : Sup) : List Int := [(s.n : Int), s.t, s.u, s.i, s.b] ++ cst s.M
def Sup.may (s : Sup) : Bool := mayB s.n s.t s.u s.i s.b (cst s.M)
def Sup.body (s : Sup) : List Nat := bodyOf (fldN s.n s.t s.u s.i s.b s.M)
def Sup.sec (s : Sup) : List Nat := pad (sealBy s.body)
theorem num_zero (l : List Nat) (h : ∀ x ∈ l, x = 0) : num l = 0 := by
  induction l with
  | nil => rfl
  | cons x xs ih =>
    unfold num
    rw [h x (by simp), ih fun y hy => h y (by simp [hy])]
theorem Sup.sec_len (s : Sup) : s.sec.length = 64 := pad_length _ (by rw [seal_len, Sup.body, body27 _ _ _ _ _ _ rfl]; omega)
theorem Sup.sec_lt (s : Sup) : ∀ x ∈ s.sec, x < 256 := padseal_lt _ (body_lt _)
theorem Sup.tail (s : Sup) (h : s.may = true) : 1 ≤ s.t := by
  unfold Sup.may mayB at h
  simp only [Bool.and_eq_true, inB_iff] at h
  omega
theorem Sup.sec_z (s : Sup) (h : s.may = true) : zerosB s.sec = false := by
  rw [Bool.eq_false_iff]
  intro hz
  unfold zerosB at hz
  rw [List.all_eq_true] at hz
  have hb : ∀ x ∈ s.body, x = 0 := fun x hx => by
    have := hz x (by unfold Sup.sec pad sealBy; simp [hx])
    simpa using this
  have hf := fld_fit s.n s.t s.u s.i s.b s.M h
  have h1 : num ((s.body.drop 6).take 6) = s.t := num_at [(s.n, 6)] s.t 6 _ (fits_lt (hf (s.t, 6) (by simp [fldN])))
  rw [num_zero _ fun x hx => hb x (List.mem_of_mem_drop (List.mem_of_mem_take hx))] at h1
  have := s.tail h
  omega
section
variable {w : World} {B : Nat} {O : Nat → Prop} {g : Nat} {dur : List Nat} {C : Nat → List (List Nat)}
/-- What a sector of a superblock holds. -/
def Holds (l : List Nat) (k : Nat) (o : Option Sup) : Prop := match o with
  | none => zerosB l = true
  | some s => l = s.sec ∧ s.may = true ∧ s.n % 2 = k
theorem rd_sup (s : Sup) (hm : s.may = true) (k : Nat) (hk : s.n % 2 = k) (g1 c1 : Nat) (W : World) (hc : 64 ≤ c1) (hr : Rd W (some ⟨g1, 0, none⟩) (bys s.sec)) : Calls Try.prog 30 #[.slice (some ⟨g1, 0, none⟩) 64 c1, .int .i64 (k : Int)] W (RdPost W (some s.l)) := by
  have := read_yes s.n s.t s.u s.i s.b s.o0 s.o1 s.o2 s.o3 s.o4 s.o5 s.o6 s.o7 hm g1 c1 W hc hr
  rw [show (s.n : Int) % 2 = (k : Int) by omega] at this
  exact this
def supL (o : Option Sup) : Option (List Int) := o.map Sup.l
theorem gs_sup (h : Dk w B O g dur C false) (hC : ∀ x, x < 34 → (C x).length ≤ 1000000) (o : Nat → Option Sup) (ho : ∀ k, k < 2 → Holds (rdS dur C k) k (o k)) (s : Sup) (hs : bst (fun k => zerosB (rdS dur C k)) (fun k => supL (o k)) 2 = some s.l) :
    Calls Try.prog 13 #[.pointer (some ⟨g, 0, none⟩)] w fun e w' => e = .returned (.tuple #[s.v, .int .i64 0]) ∧ Grows w w' := by
  refine (gs_any h hC (fun k => supL (o k)) ?_).mono ?_
  · intro k hk hz g1 c1 W hc hr
    have hh := ho k hk
    cases hok : o k with
    | none =>
      rw [hok] at hh
      rw [show zerosB (rdS dur C k) = true from hh] at hz
      cases hz
    | some s' =>
      rw [hok] at hh
      obtain ⟨h1, h2, h3⟩ := hh
      rw [h1] at hr
      exact rd_sup s' h2 k h3 g1 c1 W hc hr
  · rintro e w' ⟨n, t, u, i, b, o0, o1, o2, o3, o4, o5, o6, o7, er, rfl, hG, hq⟩
    rcases hq with ⟨L, h1, rfl, h4⟩ | ⟨h1, _⟩ | ⟨h1, _⟩
    · rw [hs] at h1
      injection h1 with h1
      rw [← h1] at h4
      injection h4 with e0 h4
      injection h4 with e1 h4
      injection h4 with e2 h4
      injection h4 with e3 h4
      injection h4 with e4 h4
      injection h4 with e5 h4
      injection h4 with e6 h4
      injection h4 with e7 h4
      injection h4 with e8 h4
      injection h4 with e9 h4
      injection h4 with e10 h4
      injection h4 with e11 h4
      injection h4 with e12 h4
      subst e0 e1 e2 e3 e4 e5 e6 e7 e8 e9 e10 e11 e12
      exact ⟨rfl, hG⟩
    · rw [hs] at h1; cases h1
    · rw [hs] at h1; cases h1
/-- GetSuper where both sectors are all 0s. -/
theorem gs_zero (h : Dk w B O g dur C false) (hC : ∀ x, x < 34 → (C x).length ≤ 1000000) (hz : ∀ k, k < 2 → zerosB (rdS dur C k) = true) : Calls Try.prog 13 #[.pointer (some ⟨g, 0, none⟩)] w fun e w' => e = .returned (.tuple #[supv 0 1 0 0 1 0 0 0 0 0 0 0 0, .int .i64 0]) ∧ Grows w w' := by
  refine (gs_any h hC (fun _ => none) (fun k hk hz' => by rw [hz k hk] at hz'; cases hz')).mono ?_
  rintro e w' ⟨n, t, u, i, b, o0, o1, o2, o3, o4, o5, o6, o7, er, rfl, hG, hq⟩
  have hb : bst (fun k => zerosB (rdS dur C k)) (fun _ => none) 2 = none := by simp [bst, hz 0 (by omega), hz 1 (by omega)]
  have he : emptyN (fun k => zerosB (rdS dur C k)) 2 = 2 := by simp [emptyN, hz 0 (by omega), hz 1 (by omega)]
  rcases hq with ⟨L, h1, _⟩ | ⟨_, _, h3, h4⟩ | ⟨_, h2, _⟩
  · rw [hb] at h1; cases h1
  · subst h3
    injection h4 with e0 h4
    injection h4 with e1 h4
    injection h4 with e2 h4
    injection h4 with e3 h4
    injection h4 with e4 h4
    injection h4 with e5 h4
    injection h4 with e6 h4
    injection h4 with e7 h4
    injection h4 with e8 h4
    injection h4 with e9 h4
    injection h4 with e10 h4
    injection h4 with e11 h4
    injection h4 with e12 h4
    subst e0 e1 e2 e3 e4 e5 e6 e7 e8 e9 e10 e11 e12
    exact ⟨rfl, hG⟩
  · exact absurd he h2
end
end Go.Proofs.Ytmcofmidpedkiaa
