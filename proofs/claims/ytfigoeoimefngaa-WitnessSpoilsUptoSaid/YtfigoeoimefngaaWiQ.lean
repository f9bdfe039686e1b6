/-
  Plain: what every fault is.
-/
import Derived.Test.YtfigoeoimefngaaWiP
namespace Go.Proofs.Ytfigoeoimefngaa
open Go.RowKit Go.Maps

theorem named_zero {n : Nm} (h : namedB n = true) : n ≠ Nm.zero := by
  rintro rfl
  simp [namedB, wi, Nm.zero] at h
theorem may_name {L : List Sn} (hm : mayB L = true) {p : Nat} {x : Sn} (hx : L[p]? = some x) : x.n ≠ Nm.zero := named_zero (may_okAt hm hx).1
theorem wk_eq {x y : Sn} : x.wk = y.wk ↔ x.b = y.b ∧ x.val = y.val := by
  unfold Sn.wk Sn.val
  constructor
  · intro h
    injection h with h1 h2 h3 h4 h5 h6 h7 h8 h9
    exact ⟨h1, by rw [h2, h3, h4, h5, h6, h7, h8, h9]⟩
  · rintro ⟨h1, h2⟩
    injection h2 with a1 h2
    injection h2 with a2 h2
    injection h2 with a3 h2
    injection h2 with a4 h2
    injection h2 with a5 h2
    injection h2 with a6 h2
    injection h2 with a7 h2
    injection h2 with a8 h2
    rw [h1, a1, a2, a3, a4, a5, a6, a7, a8]
theorem lastN_or (k : Wk) : ∀ (T : List Sn) (z : Nm), ((∀ x ∈ T, ¬ (x.k = 2 ∧ x.wk = k)) ∧ T.foldl (fun a x => if x.k = 2 ∧ x.wk = k then x.n else a) z = z) ∨ ∃ x ∈ T, x.k = 2 ∧ x.wk = k ∧ T.foldl (fun a x => if x.k = 2 ∧ x.wk = k then x.n else a) z = x.n
  | [], z => .inl ⟨fun _ h => (by cases h), rfl⟩
  | x :: T, z => by
    rw [List.foldl_cons]
    by_cases hx : x.k = 2 ∧ x.wk = k
    · rw [if_pos hx]
      rcases lastN_or k T x.n with ⟨h1, h2⟩ | ⟨y, hy, h1, h2, h3⟩
      · exact .inr ⟨x, by simp, hx.1, hx.2, h2⟩
      · exact .inr ⟨y, by simp [hy], h1, h2, h3⟩
    · rw [if_neg hx]
      rcases lastN_or k T z with ⟨h1, h2⟩ | ⟨y, hy, h1, h2, h3⟩
      · exact .inl ⟨fun y hy => by
          rcases List.mem_cons.1 hy with rfl | hy
          · exact hx
          · exact h1 y hy, h2⟩
      · exact .inr ⟨y, by simp [hy], h1, h2, h3⟩
/-- What lies in a block, and whose it is. -/
def Whose (L : List Sn) (s : List Int × List Nm) : Prop := ∀ q, q < 32 → (s.2.getD q Nm.zero = Nm.zero ∧ blk s.1 q = [0, 0, 0, 0, 0, 0, 0, 0]) ∨ ∃ y ∈ L, y.k = 2 ∧ y.n = s.2.getD q Nm.zero ∧ y.b = (q : Int) ∧ y.val = blk s.1 q
theorem whose_zero (L : List Sn) : Whose L (zer256, zer32) := fun q hq => .inl ⟨by
  unfold zer32
  rw [List.getD_eq_getElem?_getD, List.getElem?_replicate]
  simp [hq], blk_zer q hq⟩
theorem whose_step {L : List Sn} {s : List Int × List Nm} {x : Sn} (hs : SzF s) (h : Whose L s) (hx : x ∈ L) (h0 : 0 ≤ x.b) (h1 : x.b < 32) : Whose L (wstep x s) := by
  unfold wstep
  by_cases hk : x.k = 2
  · rw [if_pos hk]
    intro q hq
    obtain ⟨c, hc⟩ : ∃ c : Nat, x.b = (c : Int) := ⟨x.b.toNat, by omega⟩
    have hc32 : c < 32 := by omega
    have e1 : blk (wrt s.1 x) q = if c = q then x.val else blk s.1 q := by
      unfold wrt
      rw [if_pos hk, hc, Int.toNat_natCast]
      exact blk_spl hs.bl hc32 hq x.val rfl
    have e2 : (s.2.set x.b.toNat x.n).getD q Nm.zero = if c = q then x.n else s.2.getD q Nm.zero := by
      rw [hc, Int.toNat_natCast, List.getD_eq_getElem?_getD, List.getElem?_set, List.getD_eq_getElem?_getD]
      by_cases e : c = q
      · rw [if_pos e, if_pos e, if_pos (by rw [hs.wh]; exact hc32)]; rfl
      · rw [if_neg e, if_neg e]
    rw [e1, e2]
    by_cases e : c = q
    · rw [if_pos e, if_pos e]
      exact .inr ⟨x, hx, hk, rfl, by rw [hc, e], rfl⟩
    · rw [if_neg e, if_neg e]
      exact h q hq
  · rw [if_neg hk]; exact h
theorem whose_fold {L : List Sn} (hm : mayB L = true) : ∀ (ps : List Nat) (s : List Int × List Nm), (∀ p ∈ ps, ∃ x, L[p]? = some x ∧ rwB x = true) → SzF s → Whose L s → Whose L (stF L ps s)
  | [], _, _, _, h => h
  | p :: ps, s, hp, hs, h => by
    obtain ⟨x, hx, hr⟩ := hp p (by simp)
    have hb := rw_block hm hx hr
    rw [stF, hx]
    exact whose_fold hm ps _ (fun q hq => hp q (by simp [hq])) (szF_step hs hb.1 hb.2) (whose_step hs h (List.mem_of_getElem? hx) hb.1 hb.2)
/-- A fault. -/
structure Blame (L : List Sn) (f : Ft) (x : Sn) : Prop where
  at_ : L[f.at_]? = some x
  k : x.k = 1
  n : x.n = f.n
  b : x.b = f.b
  got : x.val = f.got
  ne : f.want ≠ f.got
  none : f.should = Nm.zero → f.want = [0, 0, 0, 0, 0, 0, 0, 0]
  some : f.should ≠ Nm.zero → L.any (wrN f.should f.b f.want) = true
  nobody : f.was = Nm.zero → (L.take f.at_).any (wrB f.b f.got) = false
  body : f.was ≠ Nm.zero → (L.take f.at_).any (wrN f.was f.b f.got) = true
  kind : 0 ≤ f.k ∧ f.k ≤ 4 ∧ (f.k = 3 ↔ f.was = f.n) ∧ (f.k = 4 → f.was = Nm.zero)
theorem rw_not2 {x : Sn} (h : rwB x = true) (h2 : x.k ≠ 2) : x.k = 1 := by
  unfold rwB at h
  simp at h
  omega
theorem blame_any {L : List Sn} (hm : mayB L = true) {f : Ft} (hf : f ∈ wrongF L) : ∃ x, Blame L f x := by
  unfold wrongF at hf
  obtain ⟨f0, hf0, rfl⟩ := List.mem_map.1 hf
  obtain ⟨hr, hbad⟩ := List.mem_filter.1 hf0
  obtain ⟨E, p, x, R, h1, h2, h3, rfl⟩ := rdF_mem _ _ _ hr
  have hE : ∀ q ∈ E, ∃ x, L[q]? = some x ∧ rwB x = true := fun q hq => by
    obtain ⟨x, a, _, c⟩ := plsD_mem (L := L) (p := q) (by rw [h1]; simp [hq])
    exact ⟨x, a, c⟩
  obtain ⟨y, h4, _, h5⟩ := plsD_mem (L := L) (p := p) (by rw [h1]; simp)
  rw [h2] at h4
  injection h4 with h4
  subst h4
  have hb := rw_block hm h2 h5
  have hx1 := rw_not2 h5 h3
  have hw := whose_fold hm E (zer256, zer32) hE szF_zero (whose_zero L) x.b.toNat (by omega)
  have hxz := may_name hm h2
  have hLN : wasA L p = lastN (L.take p) x.wk := by unfold wasA; rw [h2]; simp only []; rw [if_pos hx1]
  have hor := lastN_or x.wk (L.take p) Nm.zero
  have hne : ∀ y ∈ L, y.n ≠ Nm.zero := fun y hy => by
    obtain ⟨i, hi⟩ := List.getElem?_of_mem hy
    exact may_name hm hi
  refine ⟨x, h2, hx1, rfl, rfl, rfl, ?_, ?_, ?_, ?_, ?_, ?_⟩
  · have := hbad
    unfold badF at this
    intro hc
    rw [decide_eq_true (show (mkF L p x (stF L E (zer256, zer32))).want = (mkF L p x (stF L E (zer256, zer32))).got from hc)] at this
    cases this
  · intro h
    rcases hw with ⟨_, hw⟩ | ⟨y, hy, _, a2, _⟩
    · exact hw
    · exact absurd (a2.trans h) (hne y hy)
  · intro h
    rcases hw with ⟨hw, _⟩ | ⟨y, hy, a1, a2, a3, a4⟩
    · exact absurd hw h
    · refine List.any_eq_true.2 ⟨y, hy, ?_⟩
      have a5 : y.b = x.b := by omega
      simp only [wrN, Bool.and_eq_true, decide_eq_true_eq]
      exact ⟨⟨⟨a1, a2⟩, a5⟩, a4⟩
  · intro h
    have h : lastN (L.take p) x.wk = Nm.zero := hLN ▸ h
    rcases hor with ⟨hno, _⟩ | ⟨y, hy, _, _, h9⟩
    · rw [List.any_eq_false]
      intro y hy hc
      simp only [wrB, Bool.and_eq_true, decide_eq_true_eq] at hc
      exact hno y hy ⟨hc.1.1, wk_eq.2 ⟨hc.1.2, hc.2⟩⟩
    · exact absurd (h9.symm.trans h) (hne y (List.mem_of_mem_take hy))
  · intro h
    have h : lastN (L.take p) x.wk ≠ Nm.zero := hLN ▸ h
    rcases hor with ⟨_, h9⟩ | ⟨y, hy, a1, a2, h9⟩
    · exact absurd h9 h
    · refine List.any_eq_true.2 ⟨y, hy, ?_⟩
      have a3 := wk_eq.1 a2
      simp only [wrN, Bool.and_eq_true, decide_eq_true_eq]
      refine ⟨⟨⟨a1, ?_⟩, a3.1⟩, a3.2⟩
      show y.n = wasA L p
      rw [hLN]; exact h9.symm
  · show 0 ≤ kindF _ _ ∧ kindF _ _ ≤ 4 ∧ (kindF _ _ = 3 ↔ wasA L p = x.n) ∧ (kindF _ _ = 4 → wasA L p = Nm.zero)
    unfold kindF
    show 0 ≤ (if wasA L p = Nm.zero then _ else if wasA L p = x.n then _ else _) ∧ _
    by_cases e1 : wasA L p = Nm.zero
    · have e2 : ¬ (wasA L p = x.n) := fun e => hxz (e.symm.trans e1)
      simp only [mkF, e1, if_true]
      have e3 : ¬ (Nm.zero = x.n) := fun e => hxz e.symm
      split <;> simp [e3]
    · simp only [mkF, e1, if_false]
      by_cases e2 : wasA L p = x.n
      · simp [e2]
      · simp only [e2, if_false]
        by_cases e3 : rk (decL L) (wasA L p) = 0
        · simp [e3]
        · by_cases e4 : rk (decL L) (wasA L p) < rk (decL L) x.n
          · simp [e3, e4]
          · simp [e3, e4]
end Go.Proofs.Ytfigoeoimefngaa
