/-
  HomeBack: contracts by names of integers; what holds between the steps of the walk.
-/
import Derived.Test.YtmcofmidpedkiaaHmV
namespace Go.Proofs.Ytmcofmidpedkiaa
open Go.RowKit Go.Maps

/-- The integers of a superblock. -/
def Is (s : Sup) (n t u i b o0 o1 o2 o3 o4 o5 o6 o7 : Int) : Prop := n = s.n ∧ t = s.t ∧ u = s.u ∧ i = s.i ∧ b = s.b ∧ o0 = s.o0 ∧ o1 = s.o1 ∧ o2 = s.o2 ∧ o3 = s.o3 ∧ o4 = s.o4 ∧ o5 = s.o5 ∧ o6 = s.o6 ∧ o7 = s.o7
section
variable {w : World} {B : Nat} {O : Nat → Prop} {g : Nat} {dur : List Nat} {C : Nat → List (List Nat)} {s : Sup} {n t u i b o0 o1 o2 o3 o4 o5 o6 o7 : Int}
theorem may_is (h : mayB n t u i b [o0, o1, o2, o3, o4, o5, o6, o7] = true) : ∃ s : Sup, s.may = true ∧ Is s n t u i b o0 o1 o2 o3 o4 o5 o6 o7 := may_nat n t u i b o0 o1 o2 o3 o4 o5 o6 o7 h
theorem psI (h : Dk w B O g dur C false) (hs : s.may = true) (hi : Is s n t u i b o0 o1 o2 o3 o4 o5 o6 o7) (hC : (C (s.n % 2)).length ≤ 1000000) :
    Calls Try.prog 14 #[.pointer (some ⟨g, 0, none⟩), .agg #[.int .i64 n, .int .i64 t, .int .i64 u, .int .i64 i, .int .i64 b, .int .i64 o0, .int .i64 o1, .int .i64 o2, .int .i64 o3, .int .i64 o4, .int .i64 o5, .int .i64 o6, .int .i64 o7]] w fun e w' => e = .returned (.int .i64 0) ∧ ∃ O', Dk w' B O' g dur (upC C (s.n % 2) (C (s.n % 2) ++ [s.sec])) false ∧ Turns O w w' O' := by
  obtain ⟨rfl, rfl, rfl, rfl, rfl, rfl, rfl, rfl, rfl, rfl, rfl, rfl, rfl⟩ := hi
  exact ps_ok h s.n s.t s.u s.i s.b s.o0 s.o1 s.o2 s.o3 s.o4 s.o5 s.o6 s.o7 hs hC
theorem gsI1 (h : Dk w B O g dur C false) (hC : ∀ x, x < 34 → (C x).length ≤ 1000000) (hs : s.may = true) (hi : Is s n t u i b o0 o1 o2 o3 o4 o5 o6 o7) (k k' : Nat) (hk : s.n % 2 = k) (hk' : k' = 1 - k) (h1 : rdS dur C k = s.sec) (h2 : zerosB (rdS dur C k') = true) :
    Calls Try.prog 13 #[.pointer (some ⟨g, 0, none⟩)] w fun e w' => e = .returned (.tuple #[.agg #[.int .i64 n, .int .i64 t, .int .i64 u, .int .i64 i, .int .i64 b, .int .i64 o0, .int .i64 o1, .int .i64 o2, .int .i64 o3, .int .i64 o4, .int .i64 o5, .int .i64 o6, .int .i64 o7], .int .i64 0]) ∧ Grows w w' := by
  obtain ⟨rfl, rfl, rfl, rfl, rfl, rfl, rfl, rfl, rfl, rfl, rfl, rfl, rfl⟩ := hi
  exact gs_one h hC s hs k k' hk hk' h1 h2
theorem gsI2 {a : Sup} (h : Dk w B O g dur C false) (hC : ∀ x, x < 34 → (C x).length ≤ 1000000) (ha : a.may = true) (hs : s.may = true) (hn : s.n = a.n + 1) (hi : Is s n t u i b o0 o1 o2 o3 o4 o5 o6 o7) (k k' : Nat) (hk : s.n % 2 = k) (hk' : a.n % 2 = k') (h1 : rdS dur C k = s.sec) (h2 : rdS dur C k' = a.sec) :
    Calls Try.prog 13 #[.pointer (some ⟨g, 0, none⟩)] w fun e w' => e = .returned (.tuple #[.agg #[.int .i64 n, .int .i64 t, .int .i64 u, .int .i64 i, .int .i64 b, .int .i64 o0, .int .i64 o1, .int .i64 o2, .int .i64 o3, .int .i64 o4, .int .i64 o5, .int .i64 o6, .int .i64 o7], .int .i64 0]) ∧ Grows w w' := by
  obtain ⟨rfl, rfl, rfl, rfl, rfl, rfl, rfl, rfl, rfl, rfl, rfl, rfl, rfl⟩ := hi
  exact gs_two h hC a s ha hs hn k k' hk hk' h1 h2
end
theorem eqsI (W : World) (n t u i b o0 o1 o2 o3 o4 o5 o6 o7 n' t' u' i' b' p0 p1 p2 p3 p4 p5 p6 p7 : Int) (c : Bool) (h : decide ([n, t, u, i, b, o0, o1, o2, o3, o4, o5, o6, o7] = [n', t', u', i', b', p0, p1, p2, p3, p4, p5, p6, p7]) = c) : (Op.equalIn 10000 39 (.agg #[.int .i64 n, .int .i64 t, .int .i64 u, .int .i64 i, .int .i64 b, .int .i64 o0, .int .i64 o1, .int .i64 o2, .int .i64 o3, .int .i64 o4, .int .i64 o5, .int .i64 o6, .int .i64 o7]) (.agg #[.int .i64 n', .int .i64 t', .int .i64 u', .int .i64 i', .int .i64 b', .int .i64 p0, .int .i64 p1, .int .i64 p2, .int .i64 p3, .int .i64 p4, .int .i64 p5, .int .i64 p6, .int .i64 p7])).run Try.prog W = .ok c W := by
  rw [← h]; exact eqs_any W n t u i b o0 o1 o2 o3 o4 o5 o6 o7 n' t' u' i' b' p0 p1 p2 p3 p4 p5 p6 p7
/-- What holds between the steps: the three superblocks, the disk. -/
structure BkS (w : World) (gb gx B g : Nat) (ca cb cx : Array Value) (d : List Nat) (C : Nat → List (List Nat)) (down : Bool) (wx : World) : Prop where
  a : At wx w.heap.size 39 ca
  b : At wx gb 39 cb
  x : At wx gx 39 cx
  d : ∃ O, Dk wx B O g d C down ∧ ¬ O gx
  g : Grows w wx
section
variable {w : World} {gb gx B g : Nat} {ca cb cx : Array Value} {d : List Nat} {C : Nat → List (List Nat)} {down : Bool} {wx w' : World}
theorem BkS.grows (h : BkS w gb gx B g ca cb cx d C down wx) (hg : Grows wx w') : BkS w gb gx B g ca cb cx d C down w' := by
  obtain ⟨O, h1, h2⟩ := h.d
  exact ⟨h.a.grows hg, h.b.grows hg, h.x.grows hg, ⟨O, h1.grows hg, h2⟩, h.g.trans hg⟩
theorem BkS.turn {O O' : Nat → Prop} {d' : List Nat} {C' : Nat → List (List Nat)} {down' : Bool} (h : BkS w gb gx B g ca cb cx d C down wx) (hlow : ∀ j, B ≤ j → w.heap.size ≤ j ∧ j ≠ w.heap.size ∧ j ≠ gb) (hO : Dk wx B O g d C down) (hx : ¬ O gx) (hD : Dk w' B O' g d' C' down') (hT : Turns O wx w' O') : BkS w gb gx B g ca cb cx d' C' down' w' := by
  refine ⟨hT.at h.a (fun hi => (hlow _ (hO.ge hi)).2.1 rfl), hT.at h.b (fun hi => (hlow _ (hO.ge hi)).2.2 rfl), hT.at h.x hx, ⟨O', hD, fun hi => ?_⟩, hT.low h.g (fun i hi => (hlow i (hO.ge hi)).1)⟩
  rcases hT.own _ hi with h1 | h1
  · exact hx h1
  · have := h.x.lt; omega
theorem BkS.setx (h : BkS w gb gx B g ca cb cx d C down wx) (h1 : w.heap.size ≠ gx) (h2 : gb ≠ gx) (h3 : w.heap.size ≤ gx) (vs : List Value) (hl : vs.length = cx.size) : BkS w gb gx B g ca cb vs.toArray d C down (wx.setCells gx 0 vs) := by
  obtain ⟨O, h4, h5⟩ := h.d
  exact ⟨h.a.keep h1 _ _, h.b.keep h2 _ _, At.all (cs := cx.toList) (by simpa using h.x) (by simpa using hl), ⟨O, h4.farSets h.x h5 0 vs, h5⟩, Grows.setCells h3 _ _ h.g⟩
end
end Go.Proofs.Ytmcofmidpedkiaa
