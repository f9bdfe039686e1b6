/-
  Plain: one read that is made to tell another value.
-/
import Derived.Test.YtfigoeoimefngaaWnA
import Derived.Test.YtfigoeoimefngaaWnE
namespace Go.Proofs.Ytfigoeoimefngaa
open Go.RowKit Go.Maps

theorem reads_has {L : List Sn} : ∀ (ps : List Nat) (s : List Int × List Nm) (q : Nat) (x : Sn), q ∈ ps → L[q]? = some x → x.k ≠ 2 → ∃ f ∈ rdF L ps s, f.at_ = q
  | [], _, _, _, h, _, _ => by cases h
  | p :: ps, s, q, x, h, hx, hk => by
    rw [rdF]
    by_cases hp : q = p
    · subst hp
      rw [hx]
      simp only []
      rw [if_neg hk]
      exact ⟨_, List.mem_cons_self .., rfl⟩
    · have hq : q ∈ ps := by
        rcases List.mem_cons.1 h with h | h
        · exact absurd h hp
        · exact h
      cases L[p]? with
      | none => exact reads_has ps s q x hq hx hk
      | some y =>
        simp only []
        split
        · exact reads_has ps _ q x hq hx hk
        · obtain ⟨f, h1, h2⟩ := reads_has ps s q x hq hx hk
          exact ⟨f, List.mem_cons_of_mem _ h1, h2⟩
theorem ev_has {T : List Sn} {q : Nat} {x : Sn} (hx : T[q]? = some x) (hr : rwB x = true) : (x.n, q) ∈ ev T := by
  unfold ev
  exact List.mem_map.2 ⟨(x, q), List.mem_filter.2 ⟨List.mk_mem_zipIdx_iff_getElem?.2 hx, hr⟩, rfl⟩
theorem read_of {L : List Sn} {q : Nat} {x : Sn} (hx : L[q]? = some x) (hk : x.k = 1) (hd : x.n ∈ decL L) : ∃ f ∈ readsF L, f.at_ = q := by
  unfold readsF
  refine reads_has _ _ q x ?_ hx (by omega)
  unfold plsD
  refine List.mem_flatMap.2 ⟨x.n, hd, ?_⟩
  unfold pls
  exact List.mem_map.2 ⟨(x.n, q), List.mem_filter.2 ⟨ev_has hx (by simp [rwB, hk]), by simp⟩, rfl⟩
theorem filt_at {fs : List Ft} (hn : (fs.map Ft.at_).Nodup) {f : Ft} (hf : f ∈ fs) : fs.filter (fun g => decide (g.at_ = f.at_)) = [f] := by
  induction fs with
  | nil => cases hf
  | cons g fs ih =>
    rw [List.map_cons, List.nodup_cons] at hn
    rw [List.filter_cons]
    rcases List.mem_cons.1 hf with rfl | hf
    · rw [if_pos (by simp)]
      have : fs.filter (fun g => decide (g.at_ = f.at_)) = [] := List.filter_eq_nil_iff.2 (fun g hg e => hn.1 (List.mem_map.2 ⟨g, hg, by simpa using e⟩))
      rw [this]
    · have : g.at_ ≠ f.at_ := fun e => hn.1 (by rw [e]; exact List.mem_map.2 ⟨f, hf, rfl⟩)
      rw [if_neg (by simpa using this)]
      exact ih hn.2 hf
def spoilL (M : List Sn) (q : Nat) (v : List Int) : List Sn := M.modify q (fun x => x.put v)
theorem spoil_alike {M : List Sn} {q : Nat} {x : Sn} (hx : M[q]? = some x) (hk : x.k = 1) (v : List Int) : Alike M (spoilL M q v) :=
  (Alike.refl M).mod q v (fun y hy => by rw [hx] at hy; injection hy with hy; rw [← hy]; exact hk)
theorem spoil {M : List Sn} (hm : mayB M = true) (hbad : ∀ f ∈ readsF M, badF f = false) {q : Nat} {x : Sn} (hx : M[q]? = some x) (hk : x.k = 1) {v : List Int} (hv : v.length = 8) (hne : x.val ≠ v) :
    (x.n ∉ decL M → wrongF (spoilL M q v) = []) ∧ (x.n ∈ decL M → ∃ f, wrongF (spoilL M q v) = [f] ∧ f.at_ = q ∧ f.n = x.n ∧ f.b = x.b ∧ f.want = x.val ∧ f.got = v) := by
  have hA := spoil_alike hx hk v
  obtain ⟨M', hM'⟩ : ∃ M', spoilL M q v = M' := ⟨_, rfl⟩
  rw [hM'] at hA ⊢
  have hva : ∀ p, valAt M' p = if p = q then v else valAt M p := fun p => by
    unfold valAt
    rw [← hM']
    unfold spoilL
    rw [List.getElem?_modify]
    by_cases hp : p = q
    · subst hp
      rw [if_pos rfl, hx]
      simp [put_val hv x]
    · have hp2 : ¬ q = p := fun e => hp e.symm
      rw [if_neg hp]
      cases M[p]? <;> simp [hp2]
  have hb : ∀ f ∈ readsF M, badF (reG M' f) = decide (f.at_ = q) := fun f hf => by
    have h1 := hbad f hf
    obtain ⟨y, h2, h3, h4, _⟩ := read_at hf
    have hw : f.want = f.got := by
      unfold badF at h1
      simpa using h1
    unfold badF reG
    rw [hva]
    simp only []
    by_cases hp : f.at_ = q
    · rw [if_pos hp]
      rw [hp, hx] at h2
      injection h2 with h2
      subst h2
      rw [hw, ← h4]
      simp [hp, hne]
    · rw [if_neg hp]
      have : valAt M f.at_ = f.got := by unfold valAt; rw [h2]; exact h4
      rw [this, hw]
      simp [hp]
  have hw : wrongF M' = ((readsF M).filter (fun f => decide (f.at_ = q))).map (fun f => kdF M' (reG M' f)) := by
    unfold wrongF
    rw [readsF_alike hA, List.filter_map, List.map_map]
    have e : (readsF M).filter (badF ∘ reG M') = (readsF M).filter (fun f => decide (f.at_ = q)) := List.filter_congr (fun f hf => hb f hf)
    rw [e]
    rfl
  constructor
  · intro hd
    rw [hw]
    rw [List.filter_eq_nil_iff.2 (fun f hf e => ?_)]
    · rfl
    · obtain ⟨y, h2, _, _, h5, _, h6⟩ := read_at hf
      have hp : f.at_ = q := by simpa using e
      rw [hp, hx] at h2
      injection h2 with h2
      subst h2
      exact hd (by rw [h5]; exact h6)
  · intro hd
    obtain ⟨f, hf, hp⟩ := read_of hx hk hd
    subst hp
    rw [filt_at (reads_nodup hm) hf] at hw
    obtain ⟨y, h2, _, h4, h5, h6, _⟩ := read_at hf
    rw [hx] at h2
    injection h2 with h2
    subst h2
    refine ⟨_, hw, rfl, ?_, ?_, ?_, ?_⟩
    · exact h5.symm
    · exact h6.symm
    · have h1 := hbad f hf
      have : f.want = f.got := by
        unfold badF at h1
        simpa using h1
      show f.want = x.val
      rw [this, h4]
    · show valAt M' f.at_ = v
      rw [hva, if_pos rfl]
end Go.Proofs.Ytfigoeoimefngaa
