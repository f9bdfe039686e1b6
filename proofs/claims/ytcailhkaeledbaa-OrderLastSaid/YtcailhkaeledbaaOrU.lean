/-
  Plain: what a replay comes to, block by block.
-/
import Derived.Test.YtcailhkaeledbaaOrK
import Derived.Test.YtcailhkaeledbaaOrR
import Derived.Laws.FloatArith
namespace Go.Proofs.Ytcailhkaeledbaa
open Go.RowKit Go.Maps

def ivs (l : List Int) : List Value := l.map (Value.int .u8)
theorem ivs_len (l : List Int) : (ivs l).length = l.length := List.length_map _
theorem ivs_spl (a : List Int) (o : Nat) (b : List Int) : ivs (spl a o b) = spl (ivs a) o (ivs b) := spl_map _ _ _ _
theorem Sn.val_len (x : Sn) : x.val.length = 8 := rfl
def zer256 : List Int := List.replicate 256 0
theorem zer256_len : zer256.length = 256 := List.length_replicate
/-- A step on the blocks. -/
def wrt (s : List Int) (x : Sn) : List Int := if x.k = 2 then spl s (x.b.toNat * 8) x.val else s
def rstep (L : List Sn) (s : List Int) (p : Int × Nat) : List Int := match L[p.2]? with | some x => wrt s x | none => s
def rname (L : List Sn) (s : List Int) (n : Nm) : List Int := (st L n).foldl (rstep L) s
def repl (L : List Sn) : List Int := (decL L).foldl (rname L) zer256
def blk (s : List Int) (b : Nat) : List Int := (s.drop (b * 8)).take 8
/-- The steps of a history that may be stand where they stand. -/
structure StOk (L : List Sn) (n : Nm) (p : Int × Nat) (x : Sn) : Prop where
  at_ : L[p.2]? = some x
  blk : p.1 = x.b
  nm : x.n = n
  rw : rwB x = true
  lo : 0 ≤ x.b
  hi : x.b < 32
theorem st_mem {L : List Sn} {n : Nm} {p : Int × Nat} (h : p ∈ st L n) : ∃ x, L[p.2]? = some x ∧ p.1 = x.b ∧ x.n = n ∧ rwB x = true := by
  have key : ∀ (l : List Sn) (i : Nat), p ∈ stA n i l → ∃ x, i ≤ p.2 ∧ l[p.2 - i]? = some x ∧ p.1 = x.b ∧ x.n = n ∧ rwB x = true := by
    intro l
    induction l with
    | nil => intro i h; simp [stA] at h
    | cons y l ih =>
      intro i h
      rw [stA, List.mem_append] at h
      rcases h with h | h
      · by_cases hc : y.n = n ∧ rwB y = true
        · rw [if_pos hc, List.mem_singleton] at h
          subst h
          exact ⟨y, Nat.le_refl _, by simp, rfl, hc.1, hc.2⟩
        · rw [if_neg hc] at h; cases h
      · obtain ⟨x, h1, h2, h3⟩ := ih (i + 1) h
        exact ⟨x, by omega, by rw [show p.2 - i = (p.2 - (i + 1)) + 1 by omega]; simpa using h2, h3⟩
  obtain ⟨x, _, h2, h3⟩ := key L 0 h
  exact ⟨x, by simpa using h2, h3⟩
theorem st_ok {L : List Sn} (hm : mayB L = true) {n : Nm} {p : Int × Nat} (h : p ∈ st L n) : ∃ x, StOk L n p x := by
  obtain ⟨x, h1, h2, h3, h4⟩ := st_mem h
  have := (may_okAt hm h1).2
  have h0 : x.k ≠ 0 := by intro e; simp [rwB, e] at h4
  unfold okS at this
  rw [if_neg h0, h4] at this
  simp at this
  exact ⟨x, h1, h2, h3, h4, this.2.1.2, this.2.2⟩
theorem wrt_len {s : List Int} {x : Sn} (h : s.length = 256) (h0 : 0 ≤ x.b) (h1 : x.b < 32) : (wrt s x).length = 256 := by
  unfold wrt
  split
  · rw [spl_length _ _ _ (by rw [x.val_len]; omega), h]
  · exact h
theorem fold_len {L : List Sn} (hm : mayB L = true) {n : Nm} : ∀ (ps : List (Int × Nat)) (s : List Int), (∀ p ∈ ps, p ∈ st L n) → s.length = 256 → (ps.foldl (rstep L) s).length = 256
  | [], _, _, h => h
  | p :: ps, s, hp, h => by
    rw [List.foldl_cons]
    refine fold_len hm ps _ (fun q hq => hp q (by simp [hq])) ?_
    obtain ⟨x, hx⟩ := st_ok hm (hp p (by simp))
    unfold rstep
    rw [hx.at_]
    exact wrt_len h hx.lo hx.hi
theorem rname_len {L : List Sn} (hm : mayB L = true) (n : Nm) (s : List Int) (h : s.length = 256) : (rname L s n).length = 256 := fold_len hm _ _ (fun _ h => h) h
theorem repls_len {L : List Sn} (hm : mayB L = true) : ∀ (ns : List Nm) (s : List Int), s.length = 256 → (ns.foldl (rname L) s).length = 256
  | [], _, h => h
  | n :: ns, s, h => by rw [List.foldl_cons]; exact repls_len hm ns _ (rname_len hm n s h)
theorem fold_snoc {α β : Type} (f : β → α → β) (l : List α) (k : Nat) (h : k < l.length) (s : β) : (l.take (k + 1)).foldl f s = f ((l.take k).foldl f s) l[k] := by
  rw [List.take_add_one, List.getElem?_eq_getElem h]
  show (l.take k ++ [l[k]]).foldl f s = _
  rw [List.foldl_append]
  rfl
theorem blk_spl {s : List Int} (hs : s.length = 256) {b c : Nat} (hb : b < 32) (hc : c < 32) (v : List Int) (hv : v.length = 8) : blk (spl s (b * 8) v) c = if b = c then v else blk s c := by
  unfold blk
  apply List.ext_getElem?
  intro i
  by_cases hi : i < 8
  · rw [List.getElem?_take_of_lt hi, List.getElem?_drop, spl_get _ _ _ (by omega), hv]
    by_cases h : b = c
    · subst h
      rw [if_neg (by omega), if_pos (by omega), if_pos rfl]
      congr 1
      omega
    · rw [if_neg h, List.getElem?_take_of_lt hi, List.getElem?_drop]
      by_cases h1 : c * 8 + i < b * 8
      · rw [if_pos h1]
      · rw [if_neg h1, if_neg (by omega)]
  · rw [List.getElem?_eq_none (by rw [List.length_take]; omega)]
    by_cases h : b = c
    · rw [if_pos h, List.getElem?_eq_none (by omega)]
    · rw [if_neg h, List.getElem?_eq_none (by rw [List.length_take]; omega)]
-- the law's own loop
def lwB (n : Nm) (c : Int) (x : Sn) : Bool := x.k == 2 && decide (x.n = n) && x.b == c
def lname (L : List Sn) (c : Int) (n : Nm) (v : List Int) : List Int := L.foldl (fun v x => if lwB n c x then x.val else v) v
def lall (L : List Sn) (c : Int) (ns : List Nm) (v : List Int) : List Int := ns.foldl (fun v n => lname L c n v) v
theorem lname_eq {L : List Sn} (hm : mayB L = true) (c : Nat) (hc : c < 32) (n : Nm) (s : List Int) (hs : s.length = 256) : blk (rname L s n) c = lname L c n (blk s c) := by
  have key : ∀ (l : List Sn) (i : Nat) (s : List Int), s.length = 256 → (∀ j, l[j]? = L[i + j]?) →
      blk ((stA n i l).foldl (rstep L) s) c = l.foldl (fun v x => if lwB n c x then x.val else v) (blk s c) := by
    intro l
    induction l with
    | nil => intro i s _ _; rfl
    | cons y l ih =>
      intro i s hs hl
      have hy : L[i]? = some y := by have := hl 0; simpa using this.symm
      have hl' : ∀ j, l[j]? = L[i + 1 + j]? := fun j => by
        have := hl (j + 1)
        rw [List.getElem?_cons_succ] at this
        rw [this]
        congr 1
        omega
      rw [stA, List.foldl_append, List.foldl_cons]
      by_cases hr : y.n = n ∧ rwB y = true
      · rw [if_pos hr]
        have hok := (may_okAt hm hy).2
        have h0 : y.k ≠ 0 := by intro e; have := hr.2; simp [rwB, e] at this
        unfold okS at hok
        rw [if_neg h0, hr.2] at hok
        simp at hok
        have e1 : [(y.b, i)].foldl (rstep L) s = wrt s y := by
          show rstep L s (y.b, i) = _
          unfold rstep
          simp only
          rw [hy]
        rw [e1, ih (i + 1) _ (wrt_len hs hok.2.1.2 hok.2.2) hl']
        congr 1
        unfold wrt lwB
        by_cases h2 : y.k = 2
        · rw [if_pos h2, blk_spl hs (by omega) hc _ y.val_len]
          by_cases hb : y.b = (c : Int)
          · rw [if_pos (by omega)]; simp [h2, hr.1, hb]
          · rw [if_neg (by omega)]; simp [h2, hr.1, hb]
        · rw [if_neg h2]; simp [h2]
      · rw [if_neg hr, List.foldl_nil, ih (i + 1) s hs hl']
        congr 1
        have : lwB n c y = false := by
          unfold lwB
          by_cases h2 : y.k = 2
          · have hn : y.n ≠ n := fun e => hr ⟨e, by simp [rwB, h2]⟩
            simp [h2, hn]
          · simp [h2]
        rw [this]
        rfl
  exact key L 0 s hs fun j => by rw [Nat.zero_add]
theorem lall_eq {L : List Sn} (hm : mayB L = true) (c : Nat) (hc : c < 32) : ∀ (ns : List Nm) (s : List Int), s.length = 256 → blk (ns.foldl (rname L) s) c = lall L c ns (blk s c)
  | [], _, _ => rfl
  | n :: ns, s, hs => by
    rw [List.foldl_cons, lall_eq hm c hc ns _ (rname_len hm n s hs), lname_eq hm c hc n s hs]
    rfl
theorem blk_zer (c : Nat) (hc : c < 32) : blk zer256 c = List.replicate 8 0 := by
  unfold blk zer256
  rw [List.drop_replicate, List.take_replicate]
  congr 1
  omega
theorem last_eq {L : List Sn} (hm : mayB L = true) (c : Nat) (hc : c < 32) : blk (repl L) c = lall L c (decL L) (List.replicate 8 0) := by
  unfold repl
  rw [lall_eq hm c hc _ _ zer256_len, blk_zer c hc]
theorem fl_int : ∀ z : Nat, z < 400 → floatToIntVal .f64 (fl (z : Int)) .i64 = some (z : Int) := by decide +kernel
end Go.Proofs.Ytcailhkaeledbaa
