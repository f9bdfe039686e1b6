/-
  disk.Write that is refused; slices.Clone of bytes; disk.Read.
-/
import Derived.Test.YtmcofmidpedkiaaDkC
import Derived.Test.YtmcofmidpedkiaaOwn
import Derived.Lib.SliceRun
namespace Go.Proofs.Ytmcofmidpedkiaa
open Go.RowKit Go.Maps

theorem info_u8' : (Try.prog.info? 5).map (fun i => (i.zero, i.size, i.bytes)) = some (some (.int .u8 0), 1, 1) := by kernel_rfl
section
variable {w : World} {B : Nat} {O : Nat → Prop} {g : Nat} {dur : List Nat} {C : Nat → List (List Nat)}
theorem write_bad (h : Dk w B O g dur C false) (n : Int) (a : Option Addr) (len cap : Nat) (hb : ¬ (0 ≤ n ∧ n < 34 ∧ len ≤ 64)) :
    Calls Try.prog 11 #[.pointer (some ⟨g, 0, none⟩), .int .i64 n, .slice a len cap] w fun e w' => e = .returned (.int .i64 2) ∧ w = w' := by
  obtain ⟨m, V, h1, h2, _⟩ := h
  have hc := dk_cells h1 h2
  have hcA := hc.1
  have hcB := hc.2
  clear hc h1 h2
  by_cases hn : 0 ≤ n ∧ n < 34
  · have hl : (64 : Int) < (len : Int) := by omega
    go_enter Try.func11, Try.ntmps11
    go_wp2_with (first | (go_at_call 24; refine (is_yes _ _ hn.1 hn.2).mono ?_; rintro e w' ⟨rfl, rfl⟩))
    go_ret
    exact ⟨rfl, rfl⟩
  · go_enter Try.func11, Try.ntmps11
    go_wp2_with (first | (go_at_call 24; refine (is_no _ _ hn).mono ?_; rintro e w' ⟨rfl, rfl⟩))
    go_ret
    exact ⟨rfl, rfl⟩
end

/-- slices.Clone of bytes. -/
theorem cloneb_any (l : List Nat) (a : Addr) (cap : Nat) (w : World) (hr : Rd w (some a) (bys l)) (hl : l.length ≤ 100000) :
    Calls Try.prog 25 #[.slice (some a) l.length cap] w (RetNew w 5 1 l.length (bys l)) := by
  obtain ⟨i0, hi0, hz0, hz1, hz2⟩ := info_parts info_u8'
  have HR := Lib.hid hr
  clear hr
  have hq := fun (W : World) (a : Option Addr) (l c : Nat) => Lib.run_eql_slice_nil (P := Try.prog) W 28 5 a l c 0 0 Try.underlying28
  go_enter Try.func25, Try.ntmps25
  go_wp2_with (at_builtin; refine wpList_append_rd _ rfl (.tmp 5) (.tmp 6) 28 rfl w.heap.size 5 i0 _ 1 1 Try.underlying28 hi0 hz0 hz1 hz2 rfl (by decide) _ 0 [] rfl (own_empty w _ _) (some a) l.length cap (bys l) rfl (HR.out.grows ((Grows.refl _).alloc _)) ?c1 (bys_one _) ?c2 ?c3 ?c4 ?_)
  case c1 => rw [bys_length]; omega
  case c2 => unfold maxLen; omega
  case c3 => omega
  case c4 => simp
  intro v w2 hown hgr hat
  have HO := Lib.hid hown
  have HG : Hid (Grows w w2) := ((Grows.refl w).alloc _).grown hgr (fun k e => by cases e; exact Nat.le_refl _)
  clear hown hgr hat
  go_wp2_with fail
  go_ret
  exact ⟨_, rfl, HO.out, HG.out⟩

/-- What a read tells. -/
def rdS (dur : List Nat) (C : Nat → List (List Nat)) (x : Nat) : List Nat := match (C x).getLast? with | some l => l | none => (dur.drop (x * 64)).take 64
def ReadPost (w : World) (l : List Nat) (e : Ending) (w' : World) : Prop := ∃ v, e = .returned (.tuple #[v, .int .i64 0]) ∧ New w 5 1 64 (bys l) v w' ∧ l.length = 64
section
variable {w : World} {B : Nat} {O : Nat → Prop} {g : Nat} {dur : List Nat} {C : Nat → List (List Nat)}
theorem dk_sec {m : Nat} {down : Bool} (h : At w g 58 (dkc dur m down).toArray) (hl : dur.length = 2176) (x : Nat) (hx : x < 34) : Rd w (some ⟨g, x * 64, none⟩) (bys ((dur.drop (x * 64)).take 64)) := by
  refine .inr ⟨g, x * 64, rfl, h.lt, fun i v hv => ?_⟩
  rw [bys_cut] at hv
  rw [h.cell]
  have hi : i < 64 := by
    rcases Nat.lt_or_ge i 64 with h | h
    · exact h
    · rw [List.getElem?_eq_none (by simp; omega)] at hv; cases hv
  rw [List.getElem?_take_of_lt hi, List.getElem?_drop] at hv
  rw [List.getElem?_toArray, dkc, List.getElem?_append_left (by rw [bys_length]; omega)]
  exact hv
set_option maxHeartbeats 1000000 in
theorem read_ok (h : Dk w B O g dur C false) (x : Nat) (hx : x < 34) (hC : (C x).length ≤ 1000000) :
    Calls Try.prog 10 #[.pointer (some ⟨g, 0, none⟩), .int .i64 (x : Int)] w (ReadPost w (rdS dur C x)) := by
  obtain ⟨m, V, h1, h2, h3, h4, h5, h6, h7, h8⟩ := h
  have hc2 := (dk_cells h1 h2)
  have hcA := hc2.1
  have hcB := hc2.2
  have hx0 : (0 : Int) ≤ (x : Int) := by omega
  have hx1 : (x : Int) < 34 := by omega
  by_cases hc : C x = []
  · have hlk := h5.look keyed Try.underlying54 (zsl w) (key_at x hx)
    rw [fC_at C V x hx, if_pos hc] at hlk
    have HS := Lib.hid (dk_sec h1 h2 x hx)
    have e1 : rdS dur C x = (dur.drop (x * 64)).take 64 := by simp [rdS, hc]
    have e2 : ((dur.drop (x * 64)).take 64).length = 64 := by simp; omega
    rw [e1]
    generalize (dur.drop (x * 64)).take 64 = l at *
    have HL := Lib.hid e2
    have hcl : ∀ W, Rd W (some ⟨g, x * 64, none⟩) (bys l) → Calls Try.prog 25 #[.slice (some ⟨g, x * 64, none⟩) 64 64] W (RetNew W 5 1 64 (bys l)) := fun W hW => by
      have := cloneb_any l ⟨g, x * 64, none⟩ 64 W hW (by omega)
      rwa [e2] at this
    have HCL := Lib.hid hcl
    clear hcl e1 e2 h1 h2 h5 h6 h7 h8 hc2 hc h3 h4
    simp only [Option.getD_none] at hlk
    go_enter Try.func10, Try.ntmps10
    go_wp2_with (first | (go_at_call 24; refine (is_yes _ _ (by omega) (by omega)).mono ?_; rintro e w' ⟨rfl, rfl⟩) | (go_at_call 25; refine (HCL.out _ HS.out).mono ?_; rintro e w' ⟨v, rfl, hN⟩; have HN := Lib.hid hN; clear hN))
    go_ret2
    exact ⟨_, rfl, HN.out, HL.out⟩
  · have hlk := h5.look keyed Try.underlying54 (zsl w) (key_at x hx)
    rw [fC_at C V x hx, if_neg hc] at hlk
    simp only [Option.getD_some] at hlk
    obtain ⟨⟨sl, r1, r2⟩, b0, r3, r4⟩ := h6 x hx hc
    have hlen : 0 < (C x).length := List.length_pos_iff.2 hc
    obtain ⟨gb, cap, r5, r6, r7⟩ := own_form r1 hlen
    obtain ⟨l, hl⟩ : ∃ l, (C x)[(C x).length - 1]? = some l := ⟨_, List.getElem?_eq_getElem (by omega)⟩
    obtain ⟨s, q1, q2⟩ := r2 _ _ hl
    have e1 : rdS dur C x = l := by
      have : (C x).getLast? = some l := by rw [List.getLast?_eq_getElem?]; exact hl
      simp [rdS, this]
    rw [e1]
    obtain ⟨bs, rfl, e2, hA⟩ := q2
    have hcell : w.cell? ⟨gb, (C x).length - 1, none⟩ = some (.slice (some ⟨bs, 0, none⟩) 64 64) := by
      rw [r5] at r1
      exact own_cell r1 q1
    rw [r5] at hlk
    have HA : Hid (Rd w (some ⟨bs, 0, none⟩) (bys l)) := .inr ⟨bs, 0, rfl, hA.lt, fun i v hv => by rw [hA.cell, Nat.zero_add]; simpa using hv⟩
    have hcl : ∀ W, Rd W (some ⟨bs, 0, none⟩) (bys l) → Calls Try.prog 25 #[.slice (some ⟨bs, 0, none⟩) 64 64] W (RetNew W 5 1 64 (bys l)) := fun W hW => by
      have := cloneb_any l ⟨bs, 0, none⟩ 64 W hW (by omega)
      rwa [e2] at this
    have HCL := Lib.hid hcl
    have HL := Lib.hid e2
    generalize (C x).length = n at *
    clear hcl e1 e2 h1 h2 h5 h6 h7 h8 hc2 hc h3 h4 r1 r2 r3 r4 r5 r6 r7 hl q1 hA
    have hn0 : (0 : Int) < (n : Int) := by omega
    have hn1 : (0 : Int) ≤ (n : Int) - 1 := by omega
    have hn2 : ((n : Int) - 1).toNat = n - 1 := by omega
    go_enter Try.func10, Try.ntmps10
    go_wp2_with (first | (go_at_call 24; refine (is_yes _ _ (by omega) (by omega)).mono ?_; rintro e w' ⟨rfl, rfl⟩) | (go_at_call 25; refine (HCL.out _ HA.out).mono ?_; rintro e w' ⟨v, rfl, hN⟩; have HN := Lib.hid hN; clear hN))
    go_ret2
    exact ⟨_, rfl, HN.out, HL.out⟩
end
end Go.Proofs.Ytmcofmidpedkiaa
