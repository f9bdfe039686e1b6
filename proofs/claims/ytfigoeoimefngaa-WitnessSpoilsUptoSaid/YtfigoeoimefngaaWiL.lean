/-
  slices.Collect over the faults; witness.Wrong.
-/
import Derived.Test.YtfigoeoimefngaaWiK
namespace Go.Proofs.Ytfigoeoimefngaa
open Go.RowKit Go.Maps Go.Shelf

theorem rdF_len {L : List Sn} : ∀ (ps : List Nat) (s : List Int × List Nm), (rdF L ps s).length ≤ ps.length
  | [], _ => Nat.le_refl _
  | p :: ps, s => by
    rw [rdF]
    cases L[p]? with
    | none => exact Nat.le_succ_of_le (rdF_len ps s)
    | some x =>
      simp only []
      split
      · exact Nat.le_succ_of_le (rdF_len ps _)
      · simpa using rdF_len ps s
theorem flatMap_len {α β : Type} (f : α → List β) (m : Nat) : ∀ (l : List α), (∀ x ∈ l, (f x).length ≤ m) → (l.flatMap f).length ≤ l.length * m
  | [], _ => by simp
  | x :: l, h => by
    rw [List.flatMap_cons, List.length_append, List.length_cons, Nat.succ_mul]
    have h1 := h x (by simp)
    have h2 := flatMap_len f m l (fun y hy => h y (by simp [hy]))
    omega
theorem wrongF_len {L : List Sn} (hL : L.length ≤ 1000) : (wrongF L).length ≤ 1000000 := by
  have h1 : (wrongF L).length ≤ (readsF L).length := by unfold wrongF; rw [List.length_map]; exact List.length_filter_le _ _
  have h2 : (readsF L).length ≤ (plsD L).length := rdF_len _ _
  have h3 : (plsD L).length ≤ (decL L).length * L.length := flatMap_len _ _ _ (fun x _ => Nat.le_trans (pls_len _ _) (ev_len L))
  have h4 := decL_len L
  have h5 : (decL L).length * L.length ≤ 1000 * 1000 := Nat.mul_le_mul (by omega) hL
  omega
set_option maxRecDepth 100000 in
theorem collect_any (bl : Nat) (a : Option Addr) (cap : Nat) (L : List Sn) (n : Nat) (hn : L.length = n) (hL : n ≤ 1000) (hm : mayB L = true) (hok : ∀ x ∈ L, x.n.ok ∧ x.wk.ok) (a' : Option Addr) (c' r : Nat) (V : Nm → Value) (w : World)
    (hV : VwB w bl L a n cap a' c' r V) :
    Calls Try.prog 27 #[.func (.func 36) #[] #[.pointer (some ⟨bl, 0, none⟩)]] w fun e w' =>
      ∃ v, e = .returned v ∧ w'.ownsRow w.heap.size 34 28 v (wrongF L).length (rowsOf Ft.cs (wrongF L)) ∧ Grows w w' := by
  have HC := Lib.hid (appseq_any bl a cap L n hn hL hm hok a' c' r V w hV (wrongF_len (by omega)))
  clear hn hL hm hok hV
  go_enter Try.func27, Try.ntmps27
  go_wp2_with (go_at_call 35; refine HC.out.mono ?_)
  rintro e w' ⟨v, rfl, h1, h2⟩
  go_wp2_with fail
  go_ret
  exact ⟨v, rfl, h1, h2⟩
def WrongP (L : List Sn) (w : World) (e : Ending) (w' : World) : Prop :=
  Grows w w' ∧ ((mayB L = false ∧ e = .returned (.tuple #[.slice none 0 0, .int .i64 2])) ∨
    (mayB L = true ∧ ∃ v, e = .returned (.tuple #[v, .int .i64 0]) ∧ w'.ownsRow w.heap.size 34 28 v (wrongF L).length (rowsOf Ft.cs (wrongF L))))
set_option maxRecDepth 100000 in
set_option maxHeartbeats 4000000 in
theorem wrong_any (L : List Sn) (n : Nat) (hn : L.length = n) (hL : n ≤ 1000) (hok : ∀ x ∈ L, x.n.ok ∧ x.wk.ok) (a : Option Addr) (cap : Nat) (w : World) (hr : Rd w a (rowsOf Sn.cs L)) :
    Calls Try.prog 10 #[.slice a n cap] w (WrongP L w) := by
  have HLK := Lib.hid (look_any L n hn hL hok a cap w hr)
  have HR := Lib.hid hr
  have HN := Lib.hid hn
  have HNL := Lib.hid hL
  have HOK := Lib.hid hok
  clear hn hL hok hr
  go_enter Try.func10, Try.ntmps10
  go_wp2_with fail
  refine HLK.out.mono ?_
  clear HLK
  rintro e w1 ⟨hg, ⟨hm, rfl⟩ | ⟨hm, a', c', r, V, rfl, h1, h2, h3, h4⟩⟩
  · have HM := Lib.hid hm
    have HG := Lib.hid hg
    clear hm hg
    go_wp2_with fail
    go_ret2
    exact ⟨HG.out.alloc _, .inl ⟨HM.out, rfl⟩⟩
  · have HM := Lib.hid hm
    have HG := Lib.hid hg
    unfold vwv
    clear hm hg
    have hV : VwB (w1.alloc (.cells #[.slice a n cap, .slice a' (decL L).length c', .map (some r), .map (some (r + 1)), .map (some (r + 2))] 63)) w1.heap.size L a n cap a' c' r V :=
      ⟨At.new w1 _ _, (HR.out.grows HG.out).grows ((Grows.refl _).alloc _), h3.grows ((Grows.refl _).alloc _), h4.grows ((Grows.refl _).alloc _)⟩
    have HV := Lib.hid hV
    clear h1 h2 h3 h4 hV
    go_wp2_with fail
    refine (faults_any _ _ _ _ _ _ _ _).mono ?_
    rintro e w2 ⟨rfl, rfl⟩
    obtain ⟨W2, hW2⟩ : ∃ W2, w1.alloc (.cells #[.slice a n cap, .slice a' (decL L).length c', .map (some r), .map (some (r + 1)), .map (some (r + 2))] 63) = W2 := ⟨_, rfl⟩
    rw [hW2] at HV ⊢
    have HG2 : Hid (Grows w W2) := Lib.hid (by rw [← hW2]; exact HG.out.alloc _)
    have HV3 : Hid (VwB (W2.alloc (.cells #[.slice a n cap, .slice a' (decL L).length c', .map (some r), .map (some (r + 1)), .map (some (r + 2))] 63)) W2.heap.size L a n cap a' c' r V) := Lib.hid
      ⟨At.new W2 _ _, HV.out.rd.grows ((Grows.refl _).alloc _), HV.out.names.grows ((Grows.refl _).alloc _), HV.out.vw.grows ((Grows.refl _).alloc _)⟩
    clear hW2
    go_wp2_with fail
    refine (collect_any _ a cap L n HN.out HNL.out HM.out HOK.out a' c' r V _ HV3.out).mono ?_
    rintro e w4 ⟨v, rfl, h5, h6⟩
    have H5 := Lib.hid h5
    have H6 := Lib.hid h6
    obtain ⟨av, cv, rfl, _, _, _⟩ := own_slice h5
    clear h5 h6
    go_wp2_with fail
    go_ret2
    refine ⟨(HG2.out.alloc _).trans H6.out, .inr ⟨HM.out, _, rfl, ?_⟩⟩
    have h7 := H5.out
    refine ⟨h7.1, ?_⟩
    have hsz := HG2.out.size
    rcases h7.2 with h2 | ⟨g, cap', cur, q1, q2, q3⟩
    · exact .inl h2
    · exact .inr ⟨g, cap', cur, q1, by rw [World.size_alloc] at q2; omega, q3⟩
end Go.Proofs.Ytfigoeoimefngaa
