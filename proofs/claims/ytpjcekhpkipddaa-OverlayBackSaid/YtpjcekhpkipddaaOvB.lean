/-
  overlay.Put.
-/
import Derived.Test.YtpjcekhpkipddaaOvA
import Derived.Test.YtpjcekhpkipddaaStep
namespace Go.Proofs.Ytpjcekhpkipddaa
open Go.RowKit

def aggW (b : Int) (x0 x1 x2 x3 x4 x5 x6 x7 : Nat) : Value := .agg #[.int .i64 b, .int .u8 x0, .int .u8 x1, .int .u8 x2, .int .u8 x3, .int .u8 x4, .int .u8 x5, .int .u8 x6, .int .u8 x7]
theorem info_wr : (Try.prog.info? 26).map (fun i => (i.zero, i.size, i.bytes)) = some (some (.agg #[.int .i64 0, .int .u8 0, .int .u8 0, .int .u8 0, .int .u8 0, .int .u8 0, .int .u8 0, .int .u8 0, .int .u8 0]), 9, 16) := by kernel_rfl

set_option maxHeartbeats 1000000 in
theorem put_arg (l : List Wr) (n : Nat) (hn : l.length = n) (h8 : W8 l) (a : Option Addr) (cap : Nat) (b : Int) (x0 x1 x2 x3 x4 x5 x6 x7 : Nat) (w : World) (hrd : Rd w a (wrs l)) (hl : n ≤ 1000000) (h : (writtenB l && isB b) = false) :
    Calls Try.prog 7 #[.slice a n cap, aggW b x0 x1 x2 x3 x4 x5 x6 x7] w fun e w' => e = .returned (.tuple #[.slice none 0 0, .int .i64 2]) ∧ Grows w w' := by
  have Hrd := Lib.hid hrd
  have H8 := Lib.hid h8
  have HN := Lib.hid hn
  clear hrd h8 hn
  unfold aggW
  go_enter Try.func7, Try.ntmps7
  go_wp2_with fail
  refine (written_any l n HN.out H8.out a cap _ (Hrd.out.grows ((Grows.refl _).alloc _)) hl).mono ?_
  rintro e w1 ⟨rfl, hb1⟩
  have hat := ((At.new w 26 #[.int .i64 b, .int .u8 x0, .int .u8 x1, .int .u8 x2, .int .u8 x3, .int .u8 x4, .int .u8 x5, .int .u8 x6, .int .u8 x7]).grows hb1).cell
  have G1 := ((Grows.refl w).alloc _).trans hb1
  cases hw : writtenB l with
  | false =>
    go_wp2_with fail
    go_ret2
    exact ⟨rfl, G1⟩
  | true =>
    have hi : isB b = false := by simpa [hw] using h
    go_wp2_with fail
    refine (is_any _ _).mono ?_
    rintro e w2 ⟨rfl, rfl⟩
    go_wp2_with fail
    go_ret2
    exact ⟨rfl, G1⟩

set_option maxHeartbeats 1000000 in
theorem put_full (l : List Wr) (n : Nat) (hn : l.length = n) (h8 : W8 l) (a : Option Addr) (cap : Nat) (b : Int) (x0 x1 x2 x3 x4 x5 x6 x7 : Nat) (w : World) (hrd : Rd w a (wrs l)) (hl : n ≤ 1000000) (h : writtenB l = true) (hi : isB b = true) (hp : phas l b = false) (hf : (8 : Int) ≤ (n : Int)) :
    Calls Try.prog 7 #[.slice a n cap, aggW b x0 x1 x2 x3 x4 x5 x6 x7] w fun e w' => e = .returned (.tuple #[.slice none 0 0, .int .i64 50]) ∧ Grows w w' := by
  have Hrd := Lib.hid hrd
  have H8 := Lib.hid h8
  have HN := Lib.hid hn
  clear hrd h8 hn
  unfold aggW
  go_enter Try.func7, Try.ntmps7
  go_wp2_with fail
  refine (written_any l n HN.out H8.out a cap _ (Hrd.out.grows ((Grows.refl _).alloc _)) hl).mono ?_
  rintro e w1 ⟨rfl, hb1⟩
  have hat := ((At.new w 26 #[.int .i64 b, .int .u8 x0, .int .u8 x1, .int .u8 x2, .int .u8 x3, .int .u8 x4, .int .u8 x5, .int .u8 x6, .int .u8 x7]).grows hb1).cell
  have G1 := ((Grows.refl w).alloc _).trans hb1
  rw [h]
  go_wp2_with fail
  refine (is_any _ _).mono ?_
  rintro e w2 ⟨rfl, rfl⟩
  rw [hi]
  go_wp2_with fail
  refine (place_any l n HN.out H8.out a cap b _ (Hrd.out.grows G1) hl).mono ?_
  rintro e w2 ⟨rfl, hb2⟩
  rw [hp]
  go_wp2_with fail
  go_ret2
  exact ⟨rfl, G1.trans hb2⟩

theorem wrs_one (l : List Wr) : ∀ u ∈ wrs l, u.oneCell' = true := by
  intro u hu
  obtain ⟨x, _, hx⟩ := List.mem_flatMap.1 hu
  rcases List.mem_cons.1 hx with rfl | hx
  · rfl
  · exact bys_one _ u hx
theorem rest_rd {l : List Wr} {n : Nat} {w : World} {a : Option Addr} (h8 : W8 l) (hn : l.length = n) (h : Rd w a (wrs l)) (q cap : Nat) (hq : q ≤ n) (hc : n ≤ cap) (hne : ¬ cap = q) : Rd w (a.map (·.add (q * 9))) (wrs (l.drop q)) := by
  have h1 := h.cut (q * 9) ((n - q) * 9) (cap * 9) (by omega)
  rw [cutAddr, if_neg (by omega), ← wrs_drop l h8 q (by omega), List.take_of_length_le] at h1
  · exact h1
  · rw [wrs_length _ (fun y hy => h8 y (List.mem_of_mem_drop hy)), List.length_drop]; omega

set_option maxHeartbeats 2000000 in
theorem put_ok (l : List Wr) (n : Nat) (hn : l.length = n) (h8 : W8 l) (a : Option Addr) (cap : Nat) (b : Int) (x0 x1 x2 x3 x4 x5 x6 x7 : Nat) (w : World) (hrd : Rd w a (wrs l)) (hcap : n ≤ cap) (hnil : a = none → n = 0 ∧ cap = 0) (hl : n ≤ 8) (h : writtenB l = true) (hi : isB b = true) (hp : phas l b = true ∨ n < 8) :
    Calls Try.prog 7 #[.slice a n cap, aggW b x0 x1 x2 x3 x4 x5 x6 x7] w fun e w' => ∃ g m c, e = .returned (.tuple #[.slice (some ⟨g, 0, none⟩) m c, .int .i64 0]) ∧ (ins (b, [x0, x1, x2, x3, x4, x5, x6, x7]) l).length = m ∧ New w 26 9 m (wrs (ins (b, [x0, x1, x2, x3, x4, x5, x6, x7]) l)) (.slice (some ⟨g, 0, none⟩) m c) w' := by
  obtain ⟨i0, hi0, hz0, hz1, hz2⟩ := info_parts info_wr
  have Hrd := Lib.hid hrd
  have H8 := Lib.hid h8
  have HN := Lib.hid hn
  have Hnil := Lib.hid hnil
  clear hrd h8 hn hnil
  unfold aggW
  have HI := Lib.hid (ins_eq l (b, [x0, x1, x2, x3, x4, x5, x6, x7]))
  have hple : plc l b ≤ n := by have := plc_le l b; have := HN.out; omega
  go_enter Try.func7, Try.ntmps7
  go_wp2_with fail
  refine (written_any l n HN.out H8.out a cap _ (Hrd.out.grows ((Grows.refl _).alloc _)) (by omega)).mono ?_
  rintro e w1 ⟨rfl, hb1⟩
  have hat := ((At.new w 26 #[.int .i64 b, .int .u8 x0, .int .u8 x1, .int .u8 x2, .int .u8 x3, .int .u8 x4, .int .u8 x5, .int .u8 x6, .int .u8 x7]).grows hb1)
  have hc1 := hat.cell
  have G1 := ((Grows.refl w).alloc _).trans hb1
  rw [h]
  go_wp2_with fail
  refine (is_any _ _).mono ?_
  rintro e w2 ⟨rfl, rfl⟩
  rw [hi]
  go_wp2_with fail
  refine (place_any l n HN.out H8.out a cap b _ (Hrd.out.grows G1) (by omega)).mono ?_
  rintro e w2 ⟨rfl, hb2⟩
  have G2 := G1.trans hb2
  have hc2 := (hat.grows hb2).cell
  have hpl : phas l b = true → plc l b < n := fun hh => by have := plc_has l b hh; have := HN.out; omega
  have hsn : n < 8 → ((8 : Int) ≤ (n : Int)) = False := fun h => by simp; omega
  have hq0 : (0 : Int) ≤ (plc l b : Int) := by omega
  have hq1 : (plc l b : Int) ≤ (n : Int) := by omega
  have hq2 : (plc l b : Int) ≤ (cap : Int) := by omega
  generalize plc l b = q at *
  have HAT := Lib.hid (hat.grows hb2)
  have HQ0 : Hid (a = none → q = 0 ∧ q = 0) := fun h => by have := Hnil.out h; omega
  have HQ1 : Hid ((wrs (l.take q)).length = q * 9) := by show _ = _; rw [wrs_length _ (fun y hy => H8.out y (List.mem_of_mem_take hy)), List.length_take, HN.out, Nat.min_eq_left hple]
  have HQ2 : Hid (Rd w2 a (wrs (l.take q))) := by
    show Rd _ _ _
    rw [wrs_take l H8.out q (by rw [HN.out]; exact hple)]
    exact rd_take (Hrd.out.grows G2) _
  have HQ3 : Hid (∀ u ∈ wrc (b, [x0, x1, x2, x3, x4, x5, x6, x7]), u.oneCell' = true) := fun u hu => wrs_one [(b, [x0, x1, x2, x3, x4, x5, x6, x7])] u (by simpa [wrs] using hu)
  clear hc1 hat
  cases hph : phas l b with
  | true =>
    have hlt := hpl hph
    have hlt' : (q : Int) + 1 ≤ (n : Int) := by omega
    have hw1 : IntKind.i64.wrap ((q : Int) + 1) = (q : Int) + 1 := IntWalk.i64_in _ (by omega)
    have hq3 : (0 : Int) ≤ (q : Int) + 1 := by omega
    have hq4 : (q : Int) ≤ (q : Int) + 1 := by omega
    have HINS : Hid (wrs (ins (b, [x0, x1, x2, x3, x4, x5, x6, x7]) l) = wrs (l.take q) ++ (wrc (b, [x0, x1, x2, x3, x4, x5, x6, x7]) ++ wrs (l.drop (q + 1)))) := by
      show _ = _
      rw [HI.out]
      show wrs (l.take q ++ (b, [x0, x1, x2, x3, x4, x5, x6, x7]) :: l.drop (q + if phas l b = true then 1 else 0)) = _
      rw [hph, wrs_append, wrs_cons]
      rfl
    have HLEN : Hid ((ins (b, [x0, x1, x2, x3, x4, x5, x6, x7]) l).length = q + 1 + (n - (q + 1))) := by
      show _ = _
      rw [ins_len, HN.out]
      show n + (if phas l b = true then 0 else 1) = _
      rw [hph]
      simp
      omega
    have HRL : Hid ((wrs (l.drop (q + 1))).length = (n - (q + 1)) * 9) := by
      show _ = _
      rw [wrs_length _ (fun y hy => H8.out y (List.mem_of_mem_drop hy)), List.length_drop, HN.out]
    have HRO : Hid (∀ u ∈ wrs (l.drop (q + 1)), u.oneCell' = true) := wrs_one _
    go_wp2_with fail
    · have Hrest : Hid (Rd w2 a (wrs (l.drop (q + 1)))) := by show Rd _ _ _; rw [List.drop_of_length_le (by rw [HN.out]; omega)]; exact Rd.nil _ _
      go_region_held3 (fun W => ∀ i, W.cell? ⟨w.heap.size, i, none⟩ = (#[.int .i64 b, .int .u8 x0, .int .u8 x1, .int .u8 x2, .int .u8 x3, .int .u8 x4, .int .u8 x5, .int .u8 x6, .int .u8 x7] : Array Value)[i]?) (first | exact HAT.out.drew.cell | exact (HAT.out.drew.alloc _).cell | exact HC3) ((refine step_append_grows rfl (.tmp 44) (.tmp 46) 22 rfl 26 i0 _ 9 16 Try.underlying22 hi0 hz0 hz1 hz2 rfl (by decide) a q q (wrs (l.take q)) rfl HQ0.out HQ1.out (HQ2.out.grows ((Grows.refl _).drew.alloc _)) ⟨w2.heap.size, 0, none⟩ 1 1 (wrc (b, [x0, x1, x2, x3, x4, x5, x6, x7])) rfl rfl (rd_new w2.drew #[.int .i64 b, .int .u8 x0, .int .u8 x1, .int .u8 x2, .int .u8 x3, .int .u8 x4, .int .u8 x5, .int .u8 x6, .int .u8 x7] 26 (0, 0)) HQ3.out (Nat.lt_succ_self q) (by unfold maxLen; omega) (by omega) ?_; intro v3 w3 hown3 hgr3; have HG3 := ((Grows.refl _).grown hgr3 (by simp) : Grows _ w3); have HC3 := ((HAT.out.drew.alloc _).grows HG3).cell))
      have GG3 := ((Grows.refl w2).drew.alloc _).trans HG3
      have HO3 := Lib.hid (own_lower hown3 (show w.heap.size ≤ _ by have := G2.size; simp; omega))
      clear hown3 hgr3 HG3
      obtain ⟨g3, c3, rfl, hge3, _⟩ := own_form HO3.out (by omega)
      have HR := Lib.hid (Hrest.out.grows GG3)
      have G3 := G2.trans GG3
      go_wp2_with (at_builtin; refine wpList_append_rd _ rfl (.tmp 48) (.tmp 49) 22 rfl w.heap.size 26 i0 _ 9 16 Try.underlying22 hi0 hz0 hz1 hz2 rfl (by decide) _ (q + 1) _ rfl HO3.out _ _ _ (wrs (l.drop (q + 1))) rfl HR.out ?q1 ?q2 ?q3 ?q4 ?q5 ?_)
      case q1 => exact HRL.out
      case q2 => exact HRO.out
      case q3 => unfold maxLen; omega
      case q4 => omega
      case q5 => exact G3.size
      intro v4 w4 hown4 hgr4 _
      obtain ⟨g4, c4, rfl, hge4, _⟩ := own_form hown4 (by omega)
      have G4 : Grows w w4 := G3.grown hgr4 (by intro k hk; exact (HO3.out.lt k hk).1)
      have HO4 := Lib.hid hown4
      clear hown4 hgr4
      go_wp2_with fail
      go_ret2
      exact ⟨g4, _, c4, rfl, HLEN.out, by rw [HINS.out]; exact HO4.out, G4⟩
    · have Hrest : Hid (Rd w2 (a.map (·.add ((q + 1) * 9))) (wrs (l.drop (q + 1)))) := rest_rd H8.out HN.out (Hrd.out.grows G2) (q + 1) cap hlt (by omega) (by assumption)
      go_region_held3 (fun W => ∀ i, W.cell? ⟨w.heap.size, i, none⟩ = (#[.int .i64 b, .int .u8 x0, .int .u8 x1, .int .u8 x2, .int .u8 x3, .int .u8 x4, .int .u8 x5, .int .u8 x6, .int .u8 x7] : Array Value)[i]?) (first | exact HAT.out.drew.cell | exact (HAT.out.drew.alloc _).cell | exact HC3) ((refine step_append_grows rfl (.tmp 44) (.tmp 46) 22 rfl 26 i0 _ 9 16 Try.underlying22 hi0 hz0 hz1 hz2 rfl (by decide) a q q (wrs (l.take q)) rfl HQ0.out HQ1.out (HQ2.out.grows ((Grows.refl _).drew.alloc _)) ⟨w2.heap.size, 0, none⟩ 1 1 (wrc (b, [x0, x1, x2, x3, x4, x5, x6, x7])) rfl rfl (rd_new w2.drew #[.int .i64 b, .int .u8 x0, .int .u8 x1, .int .u8 x2, .int .u8 x3, .int .u8 x4, .int .u8 x5, .int .u8 x6, .int .u8 x7] 26 (0, 0)) HQ3.out (Nat.lt_succ_self q) (by unfold maxLen; omega) (by omega) ?_; intro v3 w3 hown3 hgr3; have HG3 := ((Grows.refl _).grown hgr3 (by simp) : Grows _ w3); have HC3 := ((HAT.out.drew.alloc _).grows HG3).cell))
      have GG3 := ((Grows.refl w2).drew.alloc _).trans HG3
      have HO3 := Lib.hid (own_lower hown3 (show w.heap.size ≤ _ by have := G2.size; simp; omega))
      clear hown3 hgr3 HG3
      obtain ⟨g3, c3, rfl, hge3, _⟩ := own_form HO3.out (by omega)
      have HR := Lib.hid (Hrest.out.grows GG3)
      have G3 := G2.trans GG3
      go_wp2_with (at_builtin; refine wpList_append_rd _ rfl (.tmp 48) (.tmp 49) 22 rfl w.heap.size 26 i0 _ 9 16 Try.underlying22 hi0 hz0 hz1 hz2 rfl (by decide) _ (q + 1) _ rfl HO3.out _ _ _ (wrs (l.drop (q + 1))) rfl HR.out ?q1 ?q2 ?q3 ?q4 ?q5 ?_)
      case q1 => exact HRL.out
      case q2 => exact HRO.out
      case q3 => unfold maxLen; omega
      case q4 => omega
      case q5 => exact G3.size
      intro v4 w4 hown4 hgr4 _
      obtain ⟨g4, c4, rfl, hge4, _⟩ := own_form hown4 (by omega)
      have G4 : Grows w w4 := G3.grown hgr4 (by intro k hk; exact (HO3.out.lt k hk).1)
      have HO4 := Lib.hid hown4
      clear hown4 hgr4
      go_wp2_with fail
      go_ret2
      exact ⟨g4, _, c4, rfl, HLEN.out, by rw [HINS.out]; exact HO4.out, G4⟩
  | false =>
    have hlt : n < 8 := by rcases hp with h | h; rw [hph] at h; cases h; exact h
    have hlt' : ¬ (8 : Int) ≤ (n : Int) := by omega
    have HINS : Hid (wrs (ins (b, [x0, x1, x2, x3, x4, x5, x6, x7]) l) = wrs (l.take q) ++ (wrc (b, [x0, x1, x2, x3, x4, x5, x6, x7]) ++ wrs (l.drop (q)))) := by
      show _ = _
      rw [HI.out]
      show wrs (l.take q ++ (b, [x0, x1, x2, x3, x4, x5, x6, x7]) :: l.drop (q + if phas l b = true then 1 else 0)) = _
      rw [hph, wrs_append, wrs_cons]
      rfl
    have HLEN : Hid ((ins (b, [x0, x1, x2, x3, x4, x5, x6, x7]) l).length = q + 1 + (n - (q))) := by
      show _ = _
      rw [ins_len, HN.out]
      show n + (if phas l b = true then 0 else 1) = _
      rw [hph]
      simp
      omega
    have HRL : Hid ((wrs (l.drop (q))).length = (n - (q)) * 9) := by
      show _ = _
      rw [wrs_length _ (fun y hy => H8.out y (List.mem_of_mem_drop hy)), List.length_drop, HN.out]
    have HRO : Hid (∀ u ∈ wrs (l.drop (q)), u.oneCell' = true) := wrs_one _
    go_wp2_with fail
    · have Hrest : Hid (Rd w2 a (wrs (l.drop q))) := by show Rd _ _ _; rw [List.drop_of_length_le (by rw [HN.out]; omega)]; exact Rd.nil _ _
      go_region_held3 (fun W => ∀ i, W.cell? ⟨w.heap.size, i, none⟩ = (#[.int .i64 b, .int .u8 x0, .int .u8 x1, .int .u8 x2, .int .u8 x3, .int .u8 x4, .int .u8 x5, .int .u8 x6, .int .u8 x7] : Array Value)[i]?) (first | exact HAT.out.drew.cell | exact (HAT.out.drew.alloc _).cell | exact HC3) ((refine step_append_grows rfl (.tmp 44) (.tmp 46) 22 rfl 26 i0 _ 9 16 Try.underlying22 hi0 hz0 hz1 hz2 rfl (by decide) a q q (wrs (l.take q)) rfl HQ0.out HQ1.out (HQ2.out.grows ((Grows.refl _).drew.alloc _)) ⟨w2.heap.size, 0, none⟩ 1 1 (wrc (b, [x0, x1, x2, x3, x4, x5, x6, x7])) rfl rfl (rd_new w2.drew #[.int .i64 b, .int .u8 x0, .int .u8 x1, .int .u8 x2, .int .u8 x3, .int .u8 x4, .int .u8 x5, .int .u8 x6, .int .u8 x7] 26 (0, 0)) HQ3.out (Nat.lt_succ_self q) (by unfold maxLen; omega) (by omega) ?_; intro v3 w3 hown3 hgr3; have HG3 := ((Grows.refl _).grown hgr3 (by simp) : Grows _ w3); have HC3 := ((HAT.out.drew.alloc _).grows HG3).cell))
      have GG3 := ((Grows.refl w2).drew.alloc _).trans HG3
      have HO3 := Lib.hid (own_lower hown3 (show w.heap.size ≤ _ by have := G2.size; simp; omega))
      clear hown3 hgr3 HG3
      obtain ⟨g3, c3, rfl, hge3, _⟩ := own_form HO3.out (by omega)
      have HR := Lib.hid (Hrest.out.grows GG3)
      have G3 := G2.trans GG3
      go_wp2_with (at_builtin; refine wpList_append_rd _ rfl (.tmp 48) (.tmp 49) 22 rfl w.heap.size 26 i0 _ 9 16 Try.underlying22 hi0 hz0 hz1 hz2 rfl (by decide) _ (q + 1) _ rfl HO3.out _ _ _ (wrs (l.drop (q))) rfl HR.out ?q1 ?q2 ?q3 ?q4 ?q5 ?_)
      case q1 => exact HRL.out
      case q2 => exact HRO.out
      case q3 => unfold maxLen; omega
      case q4 => omega
      case q5 => exact G3.size
      intro v4 w4 hown4 hgr4 _
      obtain ⟨g4, c4, rfl, hge4, _⟩ := own_form hown4 (by omega)
      have G4 : Grows w w4 := G3.grown hgr4 (by intro k hk; exact (HO3.out.lt k hk).1)
      have HO4 := Lib.hid hown4
      clear hown4 hgr4
      go_wp2_with fail
      go_ret2
      exact ⟨g4, _, c4, rfl, HLEN.out, by rw [HINS.out]; exact HO4.out, G4⟩
    · have Hrest : Hid (Rd w2 (a.map (·.add (q * 9))) (wrs (l.drop q))) := rest_rd H8.out HN.out (Hrd.out.grows G2) q cap hple (by omega) (by assumption)
      go_region_held3 (fun W => ∀ i, W.cell? ⟨w.heap.size, i, none⟩ = (#[.int .i64 b, .int .u8 x0, .int .u8 x1, .int .u8 x2, .int .u8 x3, .int .u8 x4, .int .u8 x5, .int .u8 x6, .int .u8 x7] : Array Value)[i]?) (first | exact HAT.out.drew.cell | exact (HAT.out.drew.alloc _).cell | exact HC3) ((refine step_append_grows rfl (.tmp 44) (.tmp 46) 22 rfl 26 i0 _ 9 16 Try.underlying22 hi0 hz0 hz1 hz2 rfl (by decide) a q q (wrs (l.take q)) rfl HQ0.out HQ1.out (HQ2.out.grows ((Grows.refl _).drew.alloc _)) ⟨w2.heap.size, 0, none⟩ 1 1 (wrc (b, [x0, x1, x2, x3, x4, x5, x6, x7])) rfl rfl (rd_new w2.drew #[.int .i64 b, .int .u8 x0, .int .u8 x1, .int .u8 x2, .int .u8 x3, .int .u8 x4, .int .u8 x5, .int .u8 x6, .int .u8 x7] 26 (0, 0)) HQ3.out (Nat.lt_succ_self q) (by unfold maxLen; omega) (by omega) ?_; intro v3 w3 hown3 hgr3; have HG3 := ((Grows.refl _).grown hgr3 (by simp) : Grows _ w3); have HC3 := ((HAT.out.drew.alloc _).grows HG3).cell))
      have GG3 := ((Grows.refl w2).drew.alloc _).trans HG3
      have HO3 := Lib.hid (own_lower hown3 (show w.heap.size ≤ _ by have := G2.size; simp; omega))
      clear hown3 hgr3 HG3
      obtain ⟨g3, c3, rfl, hge3, _⟩ := own_form HO3.out (by omega)
      have HR := Lib.hid (Hrest.out.grows GG3)
      have G3 := G2.trans GG3
      go_wp2_with (at_builtin; refine wpList_append_rd _ rfl (.tmp 48) (.tmp 49) 22 rfl w.heap.size 26 i0 _ 9 16 Try.underlying22 hi0 hz0 hz1 hz2 rfl (by decide) _ (q + 1) _ rfl HO3.out _ _ _ (wrs (l.drop (q))) rfl HR.out ?q1 ?q2 ?q3 ?q4 ?q5 ?_)
      case q1 => exact HRL.out
      case q2 => exact HRO.out
      case q3 => unfold maxLen; omega
      case q4 => omega
      case q5 => exact G3.size
      intro v4 w4 hown4 hgr4 _
      obtain ⟨g4, c4, rfl, hge4, _⟩ := own_form hown4 (by omega)
      have G4 : Grows w w4 := G3.grown hgr4 (by intro k hk; exact (HO3.out.lt k hk).1)
      have HO4 := Lib.hid hown4
      clear hown4 hgr4
      go_wp2_with fail
      go_ret2
      exact ⟨g4, _, c4, rfl, HLEN.out, by rw [HINS.out]; exact HO4.out, G4⟩

end Go.Proofs.Ytpjcekhpkipddaa
