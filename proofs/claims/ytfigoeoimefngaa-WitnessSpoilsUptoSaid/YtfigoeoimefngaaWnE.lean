/-
  Plain: what a mending puts are bytes: a history mended is one that memory can hold.
-/
import Derived.Test.YtfigoeoimefngaaWnA
namespace Go.Proofs.Ytfigoeoimefngaa
open Go.RowKit

def Bys (s : List Int) : Prop := ∀ z ∈ s, inB z
theorem bys_zero : Bys zer256 := fun z hz => by
  have := List.eq_of_mem_replicate hz
  subst this
  exact ⟨by omega, by omega⟩
theorem bys_val {x : Sn} (h : x.wk.ok) : Bys x.val := fun z hz => by
  obtain ⟨_, h1, h2, h3, h4, h5, h6, h7, h8⟩ := h
  simp only [Sn.val, List.mem_cons, List.not_mem_nil, or_false] at hz
  rcases hz with rfl | rfl | rfl | rfl | rfl | rfl | rfl | rfl
  · exact h1
  · exact h2
  · exact h3
  · exact h4
  · exact h5
  · exact h6
  · exact h7
  · exact h8
theorem bys_step {x : Sn} {s : List Int × List Nm} (h : Bys s.1) (hx : x.wk.ok) : Bys (wstep x s).1 := by
  unfold wstep
  split
  · rename_i h2
    intro z hz
    unfold wrt at hz
    rw [if_pos h2] at hz
    unfold spl at hz
    simp only [List.mem_append] at hz
    rcases hz with (hz | hz) | hz
    · exact h z (List.mem_of_mem_take hz)
    · exact bys_val hx z hz
    · exact h z (List.mem_of_mem_drop hz)
  · exact h
theorem bys_fold {L : List Sn} (hok : ∀ x ∈ L, x.n.ok ∧ x.wk.ok) : ∀ (ps : List Nat) (s : List Int × List Nm), Bys s.1 → Bys (stF L ps s).1
  | [], _, h => h
  | p :: ps, s, h => by
    rw [stF]
    cases hx : L[p]? with
    | none => exact bys_fold hok ps s h
    | some x => exact bys_fold hok ps _ (bys_step h (hok x (List.mem_of_getElem? hx)).2)
theorem want_bys {L : List Sn} (hok : ∀ x ∈ L, x.n.ok ∧ x.wk.ok) {f : Ft} (hf : f ∈ readsF L) : Bys f.want := by
  obtain ⟨E, p, x, R, _, _, _, rfl⟩ := rdF_mem _ _ _ hf
  intro z hz
  exact bys_fold hok E _ bys_zero z (List.mem_of_mem_drop (List.mem_of_mem_take hz))
theorem put_ok {x : Sn} {v : List Int} (hx : x.wk.ok) (hv : v.length = 8) (hb : Bys v) : (x.put v).wk.ok := by
  obtain ⟨a0, a1, a2, a3, a4, a5, a6, a7, rfl⟩ := eight_of hv
  exact ⟨hx.1, hb a0 (by simp), hb a1 (by simp), hb a2 (by simp), hb a3 (by simp), hb a4 (by simp), hb a5 (by simp), hb a6 (by simp), hb a7 (by simp)⟩
theorem mend_ok {L : List Sn} (hm : mayB L = true) (hok : ∀ x ∈ L, x.n.ok ∧ x.wk.ok) : ∀ y ∈ mendL L, y.n.ok ∧ y.wk.ok := by
  intro y hy
  obtain ⟨p, hp, rfl⟩ := List.getElem_of_mem hy
  have h1 : (mendL L)[p]? = some (mendL L)[p] := List.getElem?_eq_getElem hp
  have h2 := mendK_get (readsF L) L (reads_nodup hm) p
  have h3 : (mendL L)[p]? = (mendK L (readsF L))[p]? := rfl
  rw [h3, h2] at h1
  have hpl : p < L.length := by rw [← (mend_alike L).len]; exact hp
  rw [List.getElem?_eq_getElem hpl, Option.map_some, Option.some.injEq] at h1
  have hx := hok _ (List.getElem_mem hpl)
  generalize L[p] = x at *
  rw [← h1]
  cases hf : (readsF L).find? (fun f => f.at_ = p) with
  | none => exact hx
  | some f =>
    have hmem := List.mem_of_find?_eq_some hf
    exact ⟨hx.1, put_ok hx.2 (readsF_ok hm hok hmem).ok.want (want_bys hok hmem)⟩
end Go.Proofs.Ytfigoeoimefngaa
