/-
  Plain: the reads that count, as faults.
-/
import Derived.Test.YtfigoeoimefngaaWiC
import Derived.Test.YtfigoeoimefngaaZb
namespace Go.Proofs.Ytfigoeoimefngaa
open Go.RowKit Go.Maps

structure Ft where
  at_ : Nat
  n : Nm
  b : Int
  want : List Int
  got : List Int
  should : Nm
  was : Nm
  k : Int
deriving DecidableEq
def Ft.cs (f : Ft) : List Value := [.int .i64 (f.at_ : Int)] ++ f.n.cs ++ [.int .i64 f.b] ++ ivs f.want ++ ivs f.got ++ f.should.cs ++ f.was.cs ++ [.int .i8 f.k]
structure Ft.ok (f : Ft) : Prop where
  want : f.want.length = 8
  got : f.got.length = 8
theorem Ft.cs_len {f : Ft} (h : f.ok) : f.cs.length = 28 := by simp [Ft.cs, ivs_len, h.want, h.got, Nm.cs]
/-- The blocks, and whose they are. -/
def wstep (x : Sn) (s : List Int × List Nm) : List Int × List Nm := if x.k = 2 then (wrt s.1 x, s.2.set x.b.toNat x.n) else s
def mkF (L : List Sn) (p : Nat) (x : Sn) (s : List Int × List Nm) : Ft := ⟨p, x.n, x.b, blk s.1 x.b.toNat, x.val, s.2.getD x.b.toNat Nm.zero, wasA L p, 0⟩
def rdF (L : List Sn) : List Nat → List Int × List Nm → List Ft
  | [], _ => []
  | p :: ps, s => match L[p]? with
    | some x => if x.k = 2 then rdF L ps (wstep x s) else mkF L p x s :: rdF L ps s
    | none => rdF L ps s
def stF (L : List Sn) : List Nat → List Int × List Nm → List Int × List Nm
  | [], s => s
  | p :: ps, s => match L[p]? with
    | some x => stF L ps (wstep x s)
    | none => stF L ps s
def zer32 : List Nm := List.replicate 32 Nm.zero
def plsD (L : List Sn) : List Nat := (decL L).flatMap (pls (ev L))
def readsF (L : List Sn) : List Ft := rdF L (plsD L) (zer256, zer32)
theorem rdF_append (L : List Sn) : ∀ (a b : List Nat) (s : List Int × List Nm), rdF L (a ++ b) s = rdF L a s ++ rdF L b (stF L a s)
  | [], b, s => rfl
  | p :: a, b, s => by
    rw [List.cons_append, rdF, rdF, stF]
    cases h : L[p]? with
    | none => exact rdF_append L a b s
    | some x =>
      simp only []
      by_cases hk : x.k = 2
      · rw [if_pos hk, if_pos hk]
        exact rdF_append L a b _
      · rw [if_neg hk, if_neg hk, rdF_append L a b s, List.cons_append]
        congr 2
        unfold wstep
        rw [if_neg hk]
theorem stF_append (L : List Sn) : ∀ (a b : List Nat) (s : List Int × List Nm), stF L (a ++ b) s = stF L b (stF L a s)
  | [], b, s => rfl
  | p :: a, b, s => by
    rw [List.cons_append, stF, stF]
    cases h : L[p]? with
    | none => exact stF_append L a b s
    | some x => exact stF_append L a b _
/-- A place of a name's: the step there. -/
theorem ev_mem {T : List Sn} {e : Nm × Nat} (h : e ∈ ev T) : ∃ x, T[e.2]? = some x ∧ x.n = e.1 ∧ rwB x = true := by
  unfold ev at h
  obtain ⟨p, hp, rfl⟩ := List.mem_map.1 h
  obtain ⟨h1, h2⟩ := List.mem_filter.1 hp
  obtain ⟨x, i⟩ := p
  have := List.mk_mem_zipIdx_iff_getElem?.1 h1
  exact ⟨x, this, rfl, h2⟩
theorem pls_mem {L : List Sn} {n : Nm} {p : Nat} (h : p ∈ pls (ev L) n) : ∃ x, L[p]? = some x ∧ x.n = n ∧ rwB x = true := by
  unfold pls at h
  obtain ⟨e, he, rfl⟩ := List.mem_map.1 h
  obtain ⟨h1, h2⟩ := List.mem_filter.1 he
  obtain ⟨x, h3, h4, h5⟩ := ev_mem h1
  exact ⟨x, h3, by rw [h4]; simpa using h2, h5⟩
theorem rw_block {L : List Sn} (hm : mayB L = true) {p : Nat} {x : Sn} (hx : L[p]? = some x) (hr : rwB x = true) : 0 ≤ x.b ∧ x.b < 32 := by
  have := (may_okAt hm hx).2
  have h0 : x.k ≠ 0 := by intro e; simp [rwB, e] at hr
  unfold okS at this
  rw [if_neg h0, hr] at this
  simp at this
  exact ⟨this.2.1.2, this.2.2⟩
/-- The blocks' sizes. -/
structure SzF (s : List Int × List Nm) : Prop where
  bl : s.1.length = 256
  wh : s.2.length = 32
theorem szF_zero : SzF (zer256, zer32) := ⟨zer256_len, List.length_replicate⟩
theorem szF_step {x : Sn} {s : List Int × List Nm} (h : SzF s) (h0 : 0 ≤ x.b) (h1 : x.b < 32) : SzF (wstep x s) := by
  unfold wstep
  split
  · exact ⟨wrt_len h.bl h0 h1, by rw [List.length_set]; exact h.wh⟩
  · exact h
theorem szF_fold {L : List Sn} (hm : mayB L = true) : ∀ (ps : List Nat) (s : List Int × List Nm), (∀ p ∈ ps, ∃ x, L[p]? = some x ∧ rwB x = true) → SzF s → SzF (stF L ps s)
  | [], _, _, h => h
  | p :: ps, s, hp, h => by
    obtain ⟨x, hx, hr⟩ := hp p (by simp)
    have hb := rw_block hm hx hr
    rw [stF, hx]
    exact szF_fold hm ps _ (fun q hq => hp q (by simp [hq])) (szF_step h hb.1 hb.2)
theorem blk_len {s : List Int} (hs : s.length = 256) {b : Nat} (hb : b < 32) : (blk s b).length = 8 := by
  unfold blk
  rw [List.length_take, List.length_drop]
  omega
theorem eight_of {l : List Int} (h : l.length = 8) : ∃ a0 a1 a2 a3 a4 a5 a6 a7, l = [a0, a1, a2, a3, a4, a5, a6, a7] := by
  match l, h with
  | [a0, a1, a2, a3, a4, a5, a6, a7], _ => exact ⟨a0, a1, a2, a3, a4, a5, a6, a7, rfl⟩
end Go.Proofs.Ytfigoeoimefngaa
