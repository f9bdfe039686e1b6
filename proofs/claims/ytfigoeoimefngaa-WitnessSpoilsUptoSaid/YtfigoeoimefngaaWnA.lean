/-
  Plain: histories that differ in what their reads tell alone; a history mended.
-/
import Derived.Test.YtfigoeoimefngaaWiQ
import Derived.Test.YtfigoeoimefngaaWjE
namespace Go.Proofs.Ytfigoeoimefngaa
open Go.RowKit

def alk (x y : Sn) : Prop := y.k = x.k ∧ y.n = x.n ∧ y.b = x.b ∧ y.e = x.e ∧ (x.k ≠ 1 → y = x)
theorem alk_refl (x : Sn) : alk x x := ⟨rfl, rfl, rfl, rfl, fun _ => rfl⟩
def Alike : List Sn → List Sn → Prop
  | [], [] => True
  | x :: L, y :: M => alk x y ∧ Alike L M
  | _, _ => False
theorem Alike.refl : ∀ L : List Sn, Alike L L
  | [] => trivial
  | x :: L => ⟨alk_refl x, Alike.refl L⟩
theorem Alike.len : ∀ {L M : List Sn}, Alike L M → M.length = L.length
  | [], [], _ => rfl
  | _ :: _, _ :: _, h => by simp [h.2.len]
  | [], _ :: _, h => h.elim
  | _ :: _, [], h => h.elim
theorem Alike.get : ∀ {L M : List Sn}, Alike L M → ∀ {i : Nat} {x : Sn}, L[i]? = some x → ∃ y, M[i]? = some y ∧ alk x y
  | [], _, _, _, _, h => by simp at h
  | x :: L, y :: M, h, 0, z, hz => by
    simp only [List.getElem?_cons_zero, Option.some.injEq] at hz ⊢
    subst hz
    exact ⟨y, rfl, h.1⟩
  | x :: L, y :: M, h, i + 1, z, hz => by
    rw [List.getElem?_cons_succ] at hz ⊢
    exact h.2.get hz
  | _ :: _, [], h, _, _, _ => h.elim
theorem Alike.take : ∀ {L M : List Sn}, Alike L M → ∀ k, Alike (L.take k) (M.take k)
  | _, _, _, 0 => by simp [Alike]
  | [], [], _, k + 1 => by simp [Alike]
  | x :: L, y :: M, h, k + 1 => by
    rw [List.take_succ_cons, List.take_succ_cons]
    exact ⟨h.1, h.2.take k⟩
  | [], _ :: _, h, _ + 1 => h.elim
  | _ :: _, [], h, _ + 1 => h.elim
theorem nxt_alk {x y : Sn} (h : alk x y) (z : Int) (t : Tk) : nxt z y t = nxt z x t := by unfold nxt; rw [h.1]
theorem okS_alk {x y : Sn} (h : alk x y) (t : Tk) : okS y t = okS x t := by unfold okS rwB; rw [h.1, h.2.2.1, h.2.2.2.1]
theorem tkA_alike (n : Nm) : ∀ {L M : List Sn}, Alike L M → ∀ (i : Nat) (t : Tk), tkA n i M t = tkA n i L t
  | [], [], _, _, _ => rfl
  | x :: L, y :: M, h, i, t => by
    rw [tkA, tkA, h.1.2.1, nxt_alk h.1]
    exact tkA_alike n h.2 _ _
  | [], _ :: _, h, _, _ => h.elim
  | _ :: _, [], h, _, _ => h.elim
section
variable {L M : List Sn}
theorem tk_alike (h : Alike L M) (n : Nm) : tk M n = tk L n := tkA_alike n h 0 _
theorem okAt_alike (h : Alike L M) (i : Nat) : okAt M i = okAt L i := by
  unfold okAt
  cases hx : L[i]? with
  | none =>
    have : M[i]? = none := by rw [List.getElem?_eq_none_iff] at hx ⊢; rw [h.len]; exact hx
    rw [this]
  | some x =>
    obtain ⟨y, hy, ha⟩ := h.get hx
    rw [hy]
    simp only []
    rw [ha.2.1, okS_alk ha, tk_alike (h.take i)]
theorem mayB_alike (h : Alike L M) : mayB M = mayB L := by
  unfold mayB
  rw [h.len]
  exact congrArg _ (funext fun i => okAt_alike h i)
end
theorem filt_alike (p : Sn → Bool) (hp : ∀ x y, alk x y → p y = p x) : ∀ {L M : List Sn}, Alike L M → (M.filter p).map Sn.n = (L.filter p).map Sn.n
  | [], [], _ => rfl
  | x :: L, y :: M, h => by
    rw [List.filter_cons, List.filter_cons, hp x y h.1]
    have ih := filt_alike p hp h.2
    split
    · rw [List.map_cons, List.map_cons, ih, h.1.2.1]
    · exact ih
  | [], _ :: _, h => h.elim
  | _ :: _, [], h => h.elim
theorem evA_alike : ∀ {L M : List Sn}, Alike L M → ∀ k, ((M.zipIdx k).filter fun p => rwB p.1).map (fun p => (p.1.n, p.2)) = ((L.zipIdx k).filter fun p => rwB p.1).map (fun p => (p.1.n, p.2))
  | [], [], _, _ => rfl
  | x :: L, y :: M, h, k => by
    rw [List.zipIdx_cons, List.zipIdx_cons, List.filter_cons, List.filter_cons]
    have ih := evA_alike h.2 (k + 1)
    have hr : rwB y = rwB x := by unfold rwB; rw [h.1.1]
    simp only [hr]
    split
    · rw [List.map_cons, List.map_cons, ih]
      simp only [h.1.2.1]
    · exact ih
  | [], _ :: _, h, _ => h.elim
  | _ :: _, [], h, _ => h.elim
def valAt (M : List Sn) (p : Nat) : List Int := (M[p]?.map Sn.val).getD []
/-- The same read in another history. -/
def reG (M : List Sn) (f : Ft) : Ft := { f with got := valAt M f.at_, was := wasA M f.at_ }
section
variable {L M : List Sn}
theorem decL_alike (h : Alike L M) : decL M = decL L := by
  unfold decL
  have : (fun x : Sn => x.k == 3 && (tk M x.n).d) = (fun x : Sn => x.k == 3 && (tk L x.n).d) := funext fun x => by rw [tk_alike h]
  rw [this]
  exact filt_alike _ (fun x y ha => by rw [ha.1, ha.2.1]) h
theorem ev_alike (h : Alike L M) : ev M = ev L := evA_alike h 0
theorem plsD_alike (h : Alike L M) : plsD M = plsD L := by unfold plsD; rw [decL_alike h, ev_alike h]
theorem wstep_alk {x y : Sn} (ha : alk x y) (s : List Int × List Nm) : wstep y s = wstep x s := by
  by_cases h2 : x.k = 2
  · rw [ha.2.2.2.2 (by omega)]
  · unfold wstep
    rw [if_neg h2, if_neg (by rw [ha.1]; exact h2)]
theorem get_none (h : Alike L M) {p : Nat} (hx : L[p]? = none) : M[p]? = none := by rw [List.getElem?_eq_none_iff] at hx ⊢; rw [h.len]; exact hx
theorem stF_alike (h : Alike L M) : ∀ (ps : List Nat) (s : List Int × List Nm), stF M ps s = stF L ps s
  | [], _ => rfl
  | p :: ps, s => by
    rw [stF, stF]
    cases hx : L[p]? with
    | none => rw [get_none h hx]; exact stF_alike h ps s
    | some x =>
      obtain ⟨y, hy, ha⟩ := h.get hx
      rw [hy]
      simp only []
      rw [wstep_alk ha]
      exact stF_alike h ps _
theorem rdF_alike (h : Alike L M) : ∀ (ps : List Nat) (s : List Int × List Nm), rdF M ps s = (rdF L ps s).map (reG M)
  | [], _ => rfl
  | p :: ps, s => by
    rw [rdF, rdF]
    cases hx : L[p]? with
    | none => rw [get_none h hx]; exact rdF_alike h ps s
    | some x =>
      obtain ⟨y, hy, ha⟩ := h.get hx
      rw [hy]
      simp only []
      by_cases h2 : x.k = 2
      · rw [if_pos h2, if_pos (by rw [ha.1]; exact h2), wstep_alk ha]
        exact rdF_alike h ps _
      · rw [if_neg h2, if_neg (by rw [ha.1]; exact h2), List.map_cons, rdF_alike h ps s]
        congr 1
        unfold mkF reG valAt
        simp only []
        rw [hy, ha.2.1, ha.2.2.1]
        rfl
theorem readsF_alike (h : Alike L M) : readsF M = (readsF L).map (reG M) := by
  unfold readsF
  rw [plsD_alike h]
  exact rdF_alike h _ _
theorem blkF_alike (h : Alike L M) : blkF M = blkF L := by unfold blkF; rw [plsD_alike h, stF_alike h]
end

/-! The places of the reads. -/
theorem ev_rises : ∀ (T : List Sn), ((ev T).map Prod.snd).Pairwise (· < ·) := by
  refine snoc_ind (by simp [ev]) (fun T x ih => ?_)
  rw [ev_snoc, List.map_append, List.pairwise_append]
  refine ⟨ih, ?_, ?_⟩
  · split <;> simp
  · intro a ha b hb
    obtain ⟨e, he, rfl⟩ := List.mem_map.1 ha
    obtain ⟨y, hy, _⟩ := ev_mem he
    have := (List.getElem?_eq_some_iff.1 hy).1
    split at hb
    · simp at hb; omega
    · simp at hb
theorem pls_nodup (T : List Sn) (n : Nm) : (pls (ev T) n).Nodup := by
  have h : (pls (ev T) n).Pairwise (· < ·) := (ev_rises T).sublist (by unfold pls; exact List.Sublist.map _ List.filter_sublist)
  exact h.imp (fun hab => by omega)
theorem plsD_nodup {L : List Sn} (hm : mayB L = true) : (plsD L).Nodup := by
  unfold plsD
  unfold List.Nodup
  rw [List.pairwise_flatMap]
  refine ⟨fun n _ => pls_nodup L n, ?_⟩
  refine (decL_rises (com_at L hm)).imp (fun {a b} hab => ?_)
  intro p hp q hq e
  subst e
  obtain ⟨x, h1, h2, _⟩ := pls_mem hp
  obtain ⟨y, h3, h4, _⟩ := pls_mem hq
  rw [h1] at h3
  injection h3 with h3
  rw [← h2, ← h4, h3] at hab
  omega
theorem rdF_at {L : List Sn} : ∀ (ps : List Nat) (s : List Int × List Nm), ((rdF L ps s).map Ft.at_).Sublist ps
  | [], _ => List.Sublist.refl _
  | p :: ps, s => by
    rw [rdF]
    cases L[p]? with
    | none => exact (rdF_at ps s).cons _
    | some x =>
      simp only []
      split
      · exact (rdF_at ps _).cons _
      · rw [List.map_cons]
        exact (rdF_at ps s).cons_cons _
theorem reads_nodup {L : List Sn} (hm : mayB L = true) : ((readsF L).map Ft.at_).Nodup := (plsD_nodup hm).sublist (rdF_at _ _)
theorem find_at {fs : List Ft} (hn : (fs.map Ft.at_).Nodup) {f : Ft} (hf : f ∈ fs) : (fs.find? fun g => g.at_ = f.at_) = some f := by
  induction fs with
  | nil => cases hf
  | cons g fs ih =>
    rw [List.map_cons, List.nodup_cons] at hn
    rw [List.find?_cons]
    rcases List.mem_cons.1 hf with rfl | hf
    · simp
    · have : g.at_ ≠ f.at_ := fun e => hn.1 (by rw [e]; exact List.mem_map.2 ⟨f, hf, rfl⟩)
      simp only [decide_eq_false this]
      exact ih hn.2 hf
/-- A read's step. -/
theorem read_at {L : List Sn} {f : Ft} (hf : f ∈ readsF L) : ∃ x, L[f.at_]? = some x ∧ x.k = 1 ∧ x.val = f.got ∧ x.n = f.n ∧ x.b = f.b ∧ f.n ∈ decL L := by
  obtain ⟨E, p, x, R, hE, hx, h2, rfl⟩ := rdF_mem _ _ _ hf
  obtain ⟨y, h3, h4, h5⟩ := plsD_mem (L := L) (p := p) (by rw [hE]; simp)
  rw [hx] at h3
  injection h3 with h3
  subst h3
  exact ⟨x, hx, rw_not2 h5 h2, rfl, rfl, rfl, h4⟩

/-! Mended. -/
def Sn.put (x : Sn) (v : List Int) : Sn := ⟨x.k, x.n, x.b, v.getD 0 0, v.getD 1 0, v.getD 2 0, v.getD 3 0, v.getD 4 0, v.getD 5 0, v.getD 6 0, v.getD 7 0, x.e⟩
theorem put_val {v : List Int} (h : v.length = 8) (x : Sn) : (x.put v).val = v := by
  obtain ⟨a0, a1, a2, a3, a4, a5, a6, a7, rfl⟩ := eight_of h
  rfl
theorem put_self (x : Sn) : x.put x.val = x := rfl
def mendK (L : List Sn) (fs : List Ft) : List Sn := fs.foldl (fun l f => l.modify f.at_ (fun x => x.put f.want)) L
def mendL (L : List Sn) : List Sn := mendK L (readsF L)
theorem Alike.mod : ∀ {L M : List Sn}, Alike L M → ∀ (p : Nat) (v : List Int), (∀ x, L[p]? = some x → x.k = 1) → Alike L (M.modify p (fun x => x.put v))
  | [], [], _, p, _, _ => by cases p <;> simp [List.modify, Alike]
  | x :: L, y :: M, h, 0, v, hk => by
    have h1 := hk x rfl
    refine ⟨⟨h.1.1, h.1.2.1, h.1.2.2.1, h.1.2.2.2.1, fun hn => absurd h1 hn⟩, h.2⟩
  | x :: L, y :: M, h, p + 1, v, hk => by
    exact ⟨h.1, h.2.mod p v (fun z hz => hk z (by rw [List.getElem?_cons_succ]; exact hz))⟩
  | [], _ :: _, h, _, _, _ => h.elim
  | _ :: _, [], h, _, _, _ => h.elim
theorem mendK_alike {L : List Sn} : ∀ (fs : List Ft) (M : List Sn), Alike L M → (∀ f ∈ fs, ∀ x, L[f.at_]? = some x → x.k = 1) → Alike L (mendK M fs)
  | [], M, h, _ => h
  | f :: fs, M, h, hk => mendK_alike fs _ (h.mod f.at_ f.want (hk f (by simp))) (fun g hg => hk g (by simp [hg]))
theorem mend_alike (L : List Sn) : Alike L (mendL L) := mendK_alike _ _ (Alike.refl L) (fun f hf x hx => by
  obtain ⟨y, h1, h2, _⟩ := read_at hf
  rw [hx] at h1
  injection h1 with h1
  rw [h1]; exact h2)
theorem mendK_get : ∀ (fs : List Ft) (L : List Sn), (fs.map Ft.at_).Nodup → ∀ p, (mendK L fs)[p]? = (L[p]?).map fun x => match fs.find? (fun f => f.at_ = p) with
    | some f => x.put f.want
    | none => x
  | [], L, _, p => by simp [mendK]
  | f :: fs, L, hn, p => by
    rw [List.map_cons, List.nodup_cons] at hn
    have ih := mendK_get fs (L.modify f.at_ (fun x => x.put f.want)) hn.2 p
    show (mendK (L.modify f.at_ (fun x => x.put f.want)) fs)[p]? = _
    rw [ih, List.getElem?_modify, List.find?_cons]
    by_cases hp : f.at_ = p
    · have hno : fs.find? (fun g => g.at_ = p) = none := by
        rw [List.find?_eq_none]
        intro g hg e
        exact hn.1 (List.mem_map.2 ⟨g, hg, by rw [hp]; simpa using e⟩)
      rw [hno]
      cases L[p]? <;> simp [hp]
    · simp [hp]
theorem mend_val {L : List Sn} (hm : mayB L = true) (hok : ∀ x ∈ L, x.n.ok ∧ x.wk.ok) {f : Ft} (hf : f ∈ readsF L) : valAt (mendL L) f.at_ = f.want := by
  obtain ⟨x, hx, _⟩ := read_at hf
  unfold valAt mendL
  rw [mendK_get _ _ (reads_nodup hm), find_at (reads_nodup hm) hf, hx]
  exact put_val (readsF_ok hm hok hf).ok.want x
/-- Mended there is no fault. -/
theorem mend_wrong {L : List Sn} (hm : mayB L = true) (hok : ∀ x ∈ L, x.n.ok ∧ x.wk.ok) : (∀ f ∈ readsF (mendL L), badF f = false) ∧ wrongF (mendL L) = [] := by
  have h1 : ∀ f ∈ readsF (mendL L), badF f = false := fun f hf => by
    rw [readsF_alike (mend_alike L)] at hf
    obtain ⟨g, hg, rfl⟩ := List.mem_map.1 hf
    have := mend_val hm hok hg
    unfold badF reG
    simp [this]
  refine ⟨h1, ?_⟩
  unfold wrongF
  rw [List.filter_eq_nil_iff.2 (fun f hf => by rw [h1 f hf]; decide)]
  rfl
/-- The reference mends the faults alone: it is the same. -/
theorem mend_faults {L : List Sn} (hm : mayB L = true) : mendK L (wrongF L) = mendL L := by
  have hn := reads_nodup hm
  have hnw : ((wrongF L).map Ft.at_).Nodup := by
    unfold wrongF
    rw [List.map_map]
    exact hn.sublist (List.Sublist.map _ List.filter_sublist)
  refine List.ext_getElem? (fun p => ?_)
  unfold mendL
  rw [mendK_get _ _ hnw, mendK_get _ _ hn]
  cases hx : L[p]? with
  | none => rfl
  | some x =>
    simp only [Option.map_some, Option.some.injEq]
    cases hr : (readsF L).find? (fun f => f.at_ = p) with
    | none =>
      have : (wrongF L).find? (fun f => f.at_ = p) = none := by
        rw [List.find?_eq_none] at hr ⊢
        intro f hf
        unfold wrongF at hf
        obtain ⟨g, hg, rfl⟩ := List.mem_map.1 hf
        exact hr g (List.mem_filter.1 hg).1
      rw [this]
    | some f =>
      have hf := List.mem_of_find?_eq_some hr
      have hp : f.at_ = p := by simpa using List.find?_some hr
      obtain ⟨y, hy, _, hv, _⟩ := read_at hf
      rw [hp, hx] at hy
      injection hy with hy
      subst hy
      by_cases hb : badF f = true
      · have hmem : kdF L f ∈ wrongF L := List.mem_map.2 ⟨f, List.mem_filter.2 ⟨hf, hb⟩, rfl⟩
        have := find_at hnw hmem
        rw [show (kdF L f).at_ = p from hp] at this
        rw [this]
        rfl
      · have hno : (wrongF L).find? (fun g => g.at_ = p) = none := by
          rw [List.find?_eq_none]
          intro g hg e
          unfold wrongF at hg
          obtain ⟨g0, hg0, rfl⟩ := List.mem_map.1 hg
          obtain ⟨h1, h2⟩ := List.mem_filter.1 hg0
          have he : g0.at_ = p := by have e2 := of_decide_eq_true e; exact e2
          have h3 := find_at hn h1
          rw [he, hr] at h3
          injection h3 with h3
          subst h3
          exact hb h2
        rw [hno]
        simp only []
        have : f.want = f.got := by simpa [badF] using hb
        rw [this, ← hv]
        exact (put_self x).symm
end Go.Proofs.Ytfigoeoimefngaa
