/-
  age.Sort: names in their order, each once.
-/
import Derived.Test.YtpllcjggjjapoaaNmG
namespace Go.Proofs.Ytpllcjggjjapoaa
open Go.RowKit

def Strict (l : List Nm) : Prop := l.Pairwise fun a b => lessN a b = true
theorem strict_le {l : List Nm} (h : Strict l) {z : Nm} (hz : l.getLast? = some z) : ∀ y ∈ l, leN y z := by
  induction l with
  | nil => intro y hy; cases hy
  | cons a l ih =>
    have hp := List.pairwise_cons.1 h
    intro y hy
    cases l with
    | nil =>
      simp at hz hy
      subst hz
      subst hy
      exact leN_refl _
    | cons b l' =>
      rw [List.getLast?_cons_cons] at hz
      rcases List.mem_cons.1 hy with rfl | hy
      · exact leN_of_less (hp.1 z (List.mem_of_getLast? hz))
      · exact ih hp.2 hz y hy
theorem dd_inv : ∀ (rest acc : List Nm), Strict acc → SortN rest → (∀ x ∈ acc, ∀ y ∈ rest, leN x y) → Strict (rest.foldl ddS acc) ∧ (∀ x, x ∈ rest.foldl ddS acc ↔ x ∈ acc ∨ x ∈ rest)
  | [], acc, h, _, _ => ⟨h, by simp⟩
  | x :: rest, acc, h, hs, hc => by
    have hp := List.pairwise_cons.1 hs
    rw [List.foldl_cons]
    have key : Strict (ddS acc x) ∧ (∀ y, y ∈ ddS acc x ↔ y ∈ acc ∨ y = x) := by
      unfold ddS
      by_cases hl : acc.getLast? = some x
      · rw [if_pos hl]
        refine ⟨h, fun y => ⟨.inl, ?_⟩⟩
        rintro (hy | rfl)
        · exact hy
        · exact List.mem_of_getLast? hl
      · rw [if_neg hl]
        refine ⟨List.pairwise_append.2 ⟨h, by simp, ?_⟩, by simp⟩
        intro y hy z hz
        simp at hz
        subst hz
        apply less_of_le_ne (hc y hy z (by simp))
        rintro rfl
        cases hlast : acc.getLast? with
        | none => rw [List.getLast?_eq_none_iff] at hlast; subst hlast; cases hy
        | some u =>
          have h1 := strict_le h hlast y hy
          have h2 := hc u (List.mem_of_getLast? hlast) y (by simp)
          rw [leN_antisymm h2 h1] at hlast
          exact hl hlast
    obtain ⟨h1, h2⟩ := dd_inv rest (ddS acc x) key.1 hp.2 (fun y hy z hz => by
      rcases (key.2 y).1 hy with hy | rfl
      · exact hc y hy z (by simp [hz])
      · exact hp.1 z hz)
    refine ⟨h1, fun y => ?_⟩
    rw [h2, key.2, List.mem_cons, or_assoc]
theorem dd_strict {r : List Nm} (h : SortN r) : Strict (dd r) ∧ ∀ x, x ∈ dd r ↔ x ∈ r := by
  have := dd_inv r [] List.Pairwise.nil h (by simp)
  exact ⟨this.1, fun x => by rw [dd, this.2]; simp⟩
theorem dd_len (r : List Nm) : (dd r).length ≤ r.length := by
  have := (dd_take_len r r.length (Nat.le_refl _)).1
  rwa [List.take_of_length_le (Nat.le_refl _)] at this

/-- What Sort hands back. -/
def SortR (w : World) (l : List Nm) (e : Ending) (w' : World) : Prop := ∃ r a c, e = .returned (.slice a r.length c) ∧ Rd w' a (nms r) ∧ Strict r ∧ (∀ x, x ∈ r ↔ x ∈ l) ∧ r.length ≤ l.length ∧ r.length ≤ c ∧ Grows w w'

theorem once_nil (a : Option Addr) (cap : Nat) (w : World) : Calls Try.prog 19 #[.slice a 0 cap] w fun e w' => e = .returned (.slice a 0 0) ∧ w = w' := by
  go_enter Try.func19, Try.ntmps19
  go_wp2_with fail
  refine wp_loop_rounds 1 ?_
  rw [rounds_succ]
  go_wp2_with fail
  go_ret
  exact ⟨rfl, rfl⟩

set_option maxHeartbeats 1000000 in
theorem sort_any (l : List Nm) (n : Nat) (hn : l.length = n) (a : Option Addr) (cap : Nat) (w : World) (hrd : Rd w a (nms l)) (hc : n ≤ cap) (hl : n ≤ 1000000) :
    Calls Try.prog 16 #[.slice a n cap] w (SortR w l) := by
  have HS := Lib.hid (fun W hW => sorted_any n l n a cap W (Nat.le_refl _) hn (Rd.grows hrd hW) hc hl)
  have HN := Lib.hid hn
  clear hrd hn
  go_enter Try.func16, Try.ntmps16
  go_wp2_with fail
  refine (HS.out _ (Grows.refl _)).mono ?_
  rintro e w1 ⟨v, r, rfl, hN, hP, hSo⟩
  have hlr : r.length = n := by rw [hP.length_eq, HN.out]
  obtain ⟨h1, h2⟩ := dd_strict hSo
  have h3 := dd_len r
  have hml : ∀ x, x ∈ dd r ↔ x ∈ l := fun x => by rw [h2, hP.mem_iff]
  have G1 := hN.2
  rcases Nat.eq_zero_or_pos n with h0 | h0
  · obtain ⟨a', c', rfl, _⟩ := own_slice hN.1
    subst h0
    obtain rfl : r = [] := List.eq_nil_of_length_eq_zero hlr
    have HML := Lib.hid hml
    clear hP hN HS h1 h2 h3 hml hSo
    go_wp2_with fail
    refine (once_nil a' c' _).mono ?_
    rintro e w2 ⟨rfl, rfl⟩
    go_wp2_with fail
    go_ret
    exact ⟨[], a', 0, rfl, Rd.nil _ _, List.Pairwise.nil, HML.out, by simp, by simp, G1⟩
  · obtain ⟨g, c', cur, rfl, hgb, hh, hnc, _, hsz, htk⟩ : ∃ g c' cur, v = .slice (some ⟨g, 0, none⟩) n c' ∧ w.heap.size ≤ g ∧ w1.heap[g]? = some (.cells cur 24 (0, 0)) ∧ n ≤ c' ∧ c' ≤ maxLen ∧ cur.size = c' * 3 ∧ cur.toList.take (n * 3) = nms r := by
      rcases hN.1.2 with ⟨_, h⟩ | h
      · omega
      · exact h
    have hcur : cur = (nms r ++ cur.toList.drop (n * 3)).toArray := by
      rw [← htk, List.take_append_drop]
    have hA : At w1 g 24 (nms r ++ cur.toList.drop (n * 3)).toArray := by rw [← hcur]; exact hh
    have HO := Lib.hid (once_any r n hlr g c' hnc (cur.toList.drop (n * 3)) w1 hA hl h0)
    have HML := Lib.hid hml
    have H1 := Lib.hid h1
    have H3 := Lib.hid h3
    have HLR := Lib.hid hlr
    clear hcur hA hh hsz htk hP hN HS h1 h2 h3 hml hSo hlr
    go_wp2_with fail
    refine HO.out.mono ?_
    rintro e w2 ⟨m, X, rfl, hm, hX, hmX, hat, hbel⟩
    have HX := Lib.hid hX
    have HM := Lib.hid hm
    have HAT := Lib.hid hat
    have G2 : Grows w w2 := Below.trans G1 (hbel.mono hgb)
    clear hX hm hat hbel
    go_wp2_with fail
    go_ret
    refine ⟨dd r, some ⟨g, 0, none⟩, m, by rw [HM.out]; rfl, ?_, H1.out, HML.out, by rw [HN.out, ← HLR.out]; exact H3.out, by rw [HM.out]; exact Nat.le_refl _, G2⟩
    refine .inr ⟨g, 0, rfl, HAT.out.lt, fun i u hu => ?_⟩
    rw [Nat.zero_add, HAT.out.cell, List.getElem?_toArray]
    rw [← HX.out, nms_take _ _ hmX, List.getElem?_take] at hu
    split at hu
    · rw [List.getElem?_append_left (List.getElem?_eq_some_iff.1 hu).1]
      exact hu
    · cases hu
end Go.Proofs.Ytpllcjggjjapoaa
