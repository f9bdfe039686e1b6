/-
  Plain: the reference's replay, step by step.
-/
import Derived.Test.YtfigoeoimefngaaWiE
namespace Go.Proofs.Ytfigoeoimefngaa
open Go.RowKit Go.Maps

def okF (f : Ft) : Bool := decide (f.want = f.got)
/-- The places of a name's among the first k steps. -/
def plK (L : List Sn) (k : Nat) (n : Nm) : List Nat := pls (ev (L.take k)) n
theorem plK_zero (L : List Sn) (n : Nm) : plK L 0 n = [] := rfl
theorem plK_all {L : List Sn} {k : Nat} (n : Nm) (h : L.length ≤ k) : plK L k n = pls (ev L) n := by unfold plK; rw [List.take_of_length_le h]
theorem ev_more {L : List Sn} {k : Nat} {x : Sn} (hx : L[k]? = some x) : ev (L.take (k + 1)) = ev (L.take k) ++ if rwB x = true then [(x.n, k)] else [] := by
  have hk : (L.take k).length = k := by
    have := (List.getElem?_eq_some_iff.1 hx).1
    rw [List.length_take]; omega
  rw [List.take_add_one, hx, Option.toList_some, ev_snoc, hk]
theorem plK_more {L : List Sn} {k : Nat} {x : Sn} {n : Nm} (hx : L[k]? = some x) (hr : rwB x = true) (hn : x.n = n) : plK L (k + 1) n = plK L k n ++ [k] := by
  unfold plK
  rw [ev_more hx, if_pos hr, pls_snoc, if_pos hn]
theorem plK_same {L : List Sn} {k : Nat} {x : Sn} {n : Nm} (hx : L[k]? = some x) (h : ¬ (rwB x = true ∧ x.n = n)) : plK L (k + 1) n = plK L k n := by
  unfold plK
  rw [ev_more hx]
  by_cases hr : rwB x = true
  · rw [if_pos hr, pls_snoc, if_neg (fun e => h ⟨hr, e⟩), List.append_nil]
  · rw [if_neg hr, List.append_nil]
theorem plK_mem {L : List Sn} {k : Nat} {n : Nm} {p : Nat} (h : p ∈ plK L k n) : ∃ x, L[p]? = some x ∧ rwB x = true := by
  obtain ⟨x, h1, _, h3⟩ := pls_mem (L := L.take k) h
  have hp : p < k := by
    have := (List.getElem?_eq_some_iff.1 h1).1
    rw [List.length_take] at this; omega
  rw [List.getElem?_take_of_lt hp] at h1
  exact ⟨x, h1, h3⟩
/-- The places so far: those of the first i names, and those of the next one among the first k steps. -/
def plI (L : List Sn) (i : Nat) : List Nat := ((decL L).take i).flatMap (pls (ev L))
theorem plI_all {L : List Sn} {i : Nat} (h : (decL L).length ≤ i) : plI L i = plsD L := by unfold plI plsD; rw [List.take_of_length_le h]
theorem plI_more {L : List Sn} {i : Nat} {n : Nm} (hn : (decL L)[i]? = some n) : plI L (i + 1) = plI L i ++ pls (ev L) n := by
  unfold plI
  rw [List.take_add_one, hn, Option.toList_some, List.flatMap_append]
  simp
theorem plI_mem {L : List Sn} {i p : Nat} (h : p ∈ plI L i) : ∃ x, L[p]? = some x ∧ rwB x = true := by
  unfold plI at h
  obtain ⟨n, _, hp⟩ := List.mem_flatMap.1 h
  obtain ⟨x, h1, _, h3⟩ := pls_mem hp
  exact ⟨x, h1, h3⟩
def zz : List Int × List Nm := (zer256, zer32)
/-- Behind these places: the blocks and whose they are; the reads. -/
theorem st_read {L : List Sn} {k : Nat} {x : Sn} (ps : List Nat) (hx : L[k]? = some x) (h1 : x.k = 1) : stF L (ps ++ [k]) zz = stF L ps zz ∧ rdF L (ps ++ [k]) zz = rdF L ps zz ++ [mkF L k x (stF L ps zz)] := by
  rw [stF_append, rdF_append]
  have h2 : ¬ x.k = 2 := by omega
  constructor
  · rw [stF, hx]
    simp only []
    rw [stF]
    unfold wstep
    rw [if_neg h2]
  · congr 1
    rw [rdF, hx]
    simp only []
    rw [if_neg h2, rdF]
theorem st_write {L : List Sn} {k : Nat} {x : Sn} (ps : List Nat) (hx : L[k]? = some x) (h2 : x.k = 2) : stF L (ps ++ [k]) zz = wstep x (stF L ps zz) ∧ rdF L (ps ++ [k]) zz = rdF L ps zz := by
  rw [stF_append, rdF_append]
  constructor
  · rw [stF, hx]
    simp only []
    rw [stF]
  · rw [rdF, hx]
    simp only []
    rw [if_pos h2, rdF, List.append_nil]
theorem szF_places {L : List Sn} (hm : mayB L = true) (i k : Nat) (n : Nm) : SzF (stF L (plI L i ++ plK L k n) zz) :=
  szF_fold hm _ _ (fun p hp => by
    rcases List.mem_append.1 hp with hp | hp
    · exact plI_mem hp
    · exact plK_mem hp) szF_zero
theorem szF_names {L : List Sn} (hm : mayB L = true) (i : Nat) : SzF (stF L (plI L i) zz) := szF_fold hm _ _ (fun _ hp => plI_mem hp) szF_zero
/-- The reference's replay: the blocks, whether each read that counts tells what it should. -/
def blkF (L : List Sn) : List Int := (stF L (plsD L) zz).1
def serF (L : List Sn) : Bool := (readsF L).all okF
theorem blkF_len {L : List Sn} (hm : mayB L = true) : (blkF L).length = 256 := by
  have := (szF_names hm (decL L).length).bl
  rwa [plI_all (Nat.le_refl _)] at this
end Go.Proofs.Ytfigoeoimefngaa
