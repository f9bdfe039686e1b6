/-
  WitnessGrows, plain: steps of a name that is never decided, behind a history.
-/
import Derived.Test.YtfigoeoimefngaaWiQ
namespace Go.Proofs.Ytfigoeoimefngaa
open Go.RowKit

theorem tk_other {n m : Nm} (hm : m ≠ n) : ∀ (T L : List Sn), (∀ x ∈ T, x.n = n) → tk (L ++ T) m = tk L m
  | [], L, _ => by rw [List.append_nil]
  | x :: T, L, h => by
    rw [show L ++ x :: T = (L ++ [x]) ++ T by simp, tk_other hm T _ (fun y hy => h y (by simp [hy])), tk_snoc, if_neg (by rw [h x (by simp)]; exact Ne.symm hm)]
theorem tk_undec {n : Nm} : ∀ (T L : List Sn), (∀ x ∈ T, x.k ≠ 5) → (tk (L ++ T) n).d = (tk L n).d
  | [], L, _ => by rw [List.append_nil]
  | x :: T, L, h => by
    rw [show L ++ x :: T = (L ++ [x]) ++ T by simp, tk_undec T _ (fun y hy => h y (by simp [hy])), tk_snoc]
    split
    · rw [nxt_d]
      have := h x (by simp)
      simp [this]
    · rfl
structure Tail (n : Nm) (L T : List Sn) : Prop where
  out : ∀ x ∈ L, x.n ≠ n
  own : ∀ x ∈ T, x.n = n
  und : ∀ x ∈ T, x.k ≠ 5
section
variable {n : Nm} {L T : List Sn}
theorem tk_out (h : ∀ x ∈ L, x.n ≠ n) : tk L n = Tk.zero := tk_none (by
  intro hm
  obtain ⟨x, hx, e⟩ := List.mem_map.1 hm
  exact h x hx e)
theorem decL_tail (h : Tail n L T) : decL (L ++ T) = decL L := by
  have h0 : (tk (L ++ T) n).d = false := by rw [tk_undec T L h.und, tk_out h.out]; rfl
  unfold decL
  rw [List.filter_append, List.map_append]
  rw [show T.filter (fun x => x.k == 3 && (tk (L ++ T) x.n).d) = [] from List.filter_eq_nil_iff.2 (fun x hx => by simp [h.own x hx, h0])]
  rw [List.map_nil, List.append_nil]
  congr 1
  refine List.filter_congr (fun x hx => ?_)
  rw [tk_other (h.out x hx) T L h.own]
theorem pls_tail {n m : Nm} (hm : m ≠ n) : ∀ (T L : List Sn), (∀ x ∈ T, x.n = n) → pls (ev (L ++ T)) m = pls (ev L) m
  | [], L, _ => by rw [List.append_nil]
  | x :: T, L, h => by
    rw [show L ++ x :: T = (L ++ [x]) ++ T by simp, pls_tail hm T _ (fun y hy => h y (by simp [hy])), ev_snoc]
    split
    · rw [pls_snoc, if_neg (by show x.n ≠ m; rw [h x (by simp)]; exact Ne.symm hm), List.append_nil]
    · rw [List.append_nil]
theorem flatMap_same {α β : Type} {f g : α → List β} : ∀ (l : List α), (∀ x ∈ l, f x = g x) → l.flatMap f = l.flatMap g
  | [], _ => rfl
  | x :: l, h => by rw [List.flatMap_cons, List.flatMap_cons, h x (by simp), flatMap_same l (fun y hy => h y (by simp [hy]))]
theorem dec_in {m : Nm} (h : m ∈ decL L) : ∃ x ∈ L, x.n = m := by
  unfold decL at h
  obtain ⟨x, hx, rfl⟩ := List.mem_map.1 h
  exact ⟨x, (List.mem_filter.1 hx).1, rfl⟩
theorem plsD_tail (h : Tail n L T) : plsD (L ++ T) = plsD L := by
  unfold plsD
  rw [decL_tail h]
  exact flatMap_same _ (fun m hm => by obtain ⟨x, hx, rfl⟩ := dec_in hm; exact pls_tail (h.out x hx) T L h.own)
theorem at_tail {p : Nat} {x : Sn} (h : L[p]? = some x) : (L ++ T)[p]? = some x := by rw [List.getElem?_append_left (List.getElem?_eq_some_iff.1 h).1]; exact h
theorem wasA_tail {p : Nat} (hp : p < L.length) : wasA (L ++ T) p = wasA L p := by
  unfold wasA
  rw [List.getElem?_append_left hp, List.take_append_of_le_length (by omega)]
theorem rdF_tail : ∀ (ps : List Nat) (s : List Int × List Nm), (∀ p ∈ ps, ∃ x, L[p]? = some x) → rdF (L ++ T) ps s = rdF L ps s
  | [], _, _ => rfl
  | p :: ps, s, h => by
    obtain ⟨x, hx⟩ := h p (by simp)
    have hp := (List.getElem?_eq_some_iff.1 hx).1
    rw [rdF, rdF, hx, at_tail hx]
    simp only []
    rw [rdF_tail ps _ (fun q hq => h q (by simp [hq])), rdF_tail ps s (fun q hq => h q (by simp [hq]))]
    unfold mkF
    rw [wasA_tail hp]
theorem readsF_tail (h : Tail n L T) : readsF (L ++ T) = readsF L := by
  unfold readsF
  rw [plsD_tail h]
  exact rdF_tail _ _ (fun p hp => by obtain ⟨x, hx, _⟩ := plsD_mem hp; exact ⟨x, hx⟩)
theorem wrongF_tail (h : Tail n L T) : wrongF (L ++ T) = wrongF L := by
  unfold wrongF
  rw [readsF_tail h]
  refine List.map_congr_left (fun f hf => ?_)
  unfold kdF
  rw [decL_tail h]
end
def bgS (n : Nm) : Sn := ⟨0, n, 0, 0, 0, 0, 0, 0, 0, 0, 0, 0⟩
def cmS (n : Nm) : Sn := ⟨3, n, 0, 0, 0, 0, 0, 0, 0, 0, 0, 0⟩
def wrS (n : Nm) (b v : Int) : Sn := ⟨2, n, b, v, 0, 0, 0, 0, 0, 0, 0, 0⟩
def rdS (n : Nm) (b : Int) : Sn := ⟨1, n, b, 0, 0, 0, 0, 0, 0, 0, 0, 0⟩
def bodyS (n : Nm) (bs : List Int) : List Sn := bs.zipIdx.flatMap fun p => [wrS n p.1 (1 + (p.2 : Int)), rdS n p.1]
theorem bodyS_snoc (n : Nm) (bs : List Int) (b : Int) : bodyS n (bs ++ [b]) = bodyS n bs ++ [wrS n b (1 + (bs.length : Int)), rdS n b] := by
  unfold bodyS
  rw [List.zipIdx_append, List.flatMap_append]
  simp
theorem bodyS_len (n : Nm) (bs : List Int) : (bodyS n bs).length = bs.length * 2 := by
  unfold bodyS
  rw [List.length_flatMap]
  simp [List.map_const']
theorem bodyS_mem {n : Nm} {bs : List Int} {x : Sn} (h : x ∈ bodyS n bs) : x.n = n ∧ (x.k = 1 ∨ x.k = 2) := by
  unfold bodyS at h
  obtain ⟨p, _, hp⟩ := List.mem_flatMap.1 h
  simp only [List.mem_cons, List.not_mem_nil, or_false] at hp
  rcases hp with rfl | rfl
  · exact ⟨rfl, .inr rfl⟩
  · exact ⟨rfl, .inl rfl⟩
/-- What the law makes of a history. -/
def moreS (L : List Sn) (n : Nm) (bs : List Int) : List Sn := L ++ ([bgS n] ++ bodyS n bs)
def fullS (L : List Sn) (n : Nm) (bs : List Int) : List Sn := moreS L n bs ++ [cmS n]
theorem snoc_indI {P : List Int → Prop} (h0 : P []) (h1 : ∀ l x, P l → P (l ++ [x])) (l : List Int) : P l := by
  have : ∀ n (l : List Int), l.length = n → P l := by
    intro n
    induction n with
    | zero => intro l h; rw [List.eq_nil_of_length_eq_zero h]; exact h0
    | succ n ih =>
      intro l h
      have hne : l ≠ [] := by rintro rfl; simp at h
      rw [← List.dropLast_concat_getLast hne]
      exact h1 _ _ (ih _ (by simp; omega))
  exact this _ l rfl
theorem more_snoc (L : List Sn) (n : Nm) (bs : List Int) (b : Int) : moreS L n (bs ++ [b]) = (moreS L n bs ++ [wrS n b (1 + (bs.length : Int))]) ++ [rdS n b] := by
  unfold moreS
  rw [bodyS_snoc]
  simp
theorem may_more {L : List Sn} {n : Nm} (ho : ∀ x ∈ L, x.n ≠ n) (bs : List Int) : (∀ b ∈ bs, 0 ≤ b ∧ b < 32) → mayB (moreS L n bs) = (mayB L && namedB n) ∧ (tk (moreS L n bs) n).b = true ∧ (tk (moreS L n bs) n).c = false := by
  refine snoc_indI (P := fun bs => (∀ b ∈ bs, 0 ≤ b ∧ b < 32) → mayB (moreS L n bs) = (mayB L && namedB n) ∧ (tk (moreS L n bs) n).b = true ∧ (tk (moreS L n bs) n).c = false) ?_ ?_ bs
  · intro _
    have e : moreS L n [] = L ++ [bgS n] := by unfold moreS bodyS; simp
    rw [e, mayB_snoc, tk_snoc, if_pos (show (bgS n).n = n from rfl), show (bgS n).n = n from rfl, tk_out ho]
    refine ⟨?_, rfl, rfl⟩
    rw [show okS (bgS n) Tk.zero = true from rfl, Bool.and_true]
  · intro bs b ih hb
    obtain ⟨h1, h2, h3⟩ := ih (fun c hc => hb c (by simp [hc]))
    have hbb := hb b (by simp)
    have t1 : tk (moreS L n bs ++ [wrS n b (1 + (bs.length : Int))]) n = tk (moreS L n bs) n := by
      rw [tk_snoc, if_pos (show (wrS n b (1 + (bs.length : Int))).n = n from rfl)]
      simp [nxt, wrS]
    have t2 : tk ((moreS L n bs ++ [wrS n b (1 + (bs.length : Int))]) ++ [rdS n b]) n = tk (moreS L n bs) n := by
      rw [tk_snoc, if_pos (show (rdS n b).n = n from rfl), t1]
      simp [nxt, rdS]
    rw [more_snoc, t2, mayB_snoc, mayB_snoc, show (rdS n b).n = n from rfl, show (wrS n b (1 + (bs.length : Int))).n = n from rfl, t1, h1]
    generalize tk (moreS L n bs) n = t at *
    refine ⟨?_, h2, h3⟩
    rw [show okS (wrS n b (1 + (bs.length : Int))) t = true by simp [okS, wrS, rwB, h2, h3, hbb.1, hbb.2]]
    rw [show okS (rdS n b) t = true by simp [okS, rdS, rwB, h2, h3, hbb.1, hbb.2]]
    cases mayB L <;> cases namedB n <;> rfl
theorem may_full {L : List Sn} {n : Nm} (ho : ∀ x ∈ L, x.n ≠ n) {bs : List Int} (hb : ∀ b ∈ bs, 0 ≤ b ∧ b < 32) : mayB (fullS L n bs) = (mayB L && namedB n) := by
  obtain ⟨h1, h2, h3⟩ := may_more ho bs hb
  unfold fullS
  rw [mayB_snoc, show (cmS n).n = n from rfl, h1]
  generalize tk (moreS L n bs) n = t at *
  rw [show okS (cmS n) t = true by simp [okS, cmS, rwB, h2, h3]]
  cases mayB L <;> cases namedB n <;> rfl
theorem wrong_full {L : List Sn} {n : Nm} (ho : ∀ x ∈ L, x.n ≠ n) (bs : List Int) : wrongF (fullS L n bs) = wrongF L := by
  unfold fullS moreS
  rw [List.append_assoc]
  refine wrongF_tail (n := n) ⟨ho, fun x hx => ?_, fun x hx => ?_⟩
  all_goals
    simp only [List.mem_append, List.mem_singleton] at hx
    rcases hx with (rfl | hx) | rfl
  · rfl
  · exact (bodyS_mem hx).1
  · rfl
  · intro e; simp [bgS] at e
  · rcases (bodyS_mem hx).2 with e | e <;> rw [e] <;> decide
  · intro e; simp [cmS] at e
theorem full_len (L : List Sn) (n : Nm) (bs : List Int) : (fullS L n bs).length = L.length + 2 + bs.length * 2 := by
  unfold fullS moreS
  simp [bodyS_len]
  omega
theorem full_ok {L : List Sn} {n : Nm} {bs : List Int} (hok : ∀ x ∈ L, x.n.ok ∧ x.wk.ok) (hn : n.ok) (hl : bs.length ≤ 20) (hb : ∀ b ∈ bs, 0 ≤ b ∧ b < 32) : ∀ x ∈ fullS L n bs, x.n.ok ∧ x.wk.ok := by
  intro x hx
  unfold fullS moreS at hx
  simp only [List.mem_append, List.mem_singleton] at hx
  rcases hx with (hx | rfl | hx) | rfl
  · exact hok x hx
  · exact ⟨hn, by simp [Sn.wk, bgS, Wk.ok, inI, inB]⟩
  · unfold bodyS at hx
    obtain ⟨p, h1, h2⟩ := List.mem_flatMap.1 hx
    obtain ⟨b, i⟩ := p
    have h3 := List.mk_mem_zipIdx_iff_getElem?.1 h1
    have h4 := (List.getElem?_eq_some_iff.1 h3).1
    have h5 := hb b (List.mem_of_getElem? h3)
    simp only [List.mem_cons, List.not_mem_nil, or_false] at h2
    rcases h2 with rfl | rfl
    · refine ⟨hn, ?_⟩
      simp [Sn.wk, wrS, Wk.ok, inI, inB]
      omega
    · refine ⟨hn, ?_⟩
      simp [Sn.wk, rdS, Wk.ok, inI, inB]
      omega
  · exact ⟨hn, by simp [Sn.wk, cmS, Wk.ok, inI, inB]⟩
end Go.Proofs.Ytfigoeoimefngaa
