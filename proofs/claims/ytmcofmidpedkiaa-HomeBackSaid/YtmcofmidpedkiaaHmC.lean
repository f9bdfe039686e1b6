/-
  home.Put, Get.
-/
import Derived.Test.YtmcofmidpedkiaaHmB
import Derived.Test.YtmcofmidpedkiaaRes
namespace Go.Proofs.Ytmcofmidpedkiaa
open Go.RowKit Go.Maps

theorem rd_range {w : World} {b off : Nat} {xs : List Value} (h : Rd w (some ⟨b, off, none⟩) xs) : w.rangeAt b off xs := fun j v hv => by
  rcases h with h | ⟨b', off', e, _, hc⟩
  · subst h; simp at hv
  · cases e
    exact hc j v hv
theorem arr61 (b off cap : Nat) (W : World) : (Instr.arrayAt 61 (.slice (some ⟨b, off, none⟩) 4 cap)).run Try.prog W = .ok (.pointer (some ⟨b, off, none⟩)) W := by kernel_rfl
def ZB : List Value := bys (List.replicate 32 0)
theorem zb_len : ZB.length = 32 := by simp [ZB, bys_length]
theorem zb_run (W : World) : (zeroValue 61).run Try.prog W = .ok (.agg ZB.toArray) W := by kernel_rfl
/-- What a home holds. -/
def sealBy (L : List Nat) : List Nat := L ++ Crc.le4 (Crc.sum L)
theorem le4_len (s : Nat) : (Crc.le4 s).length = 4 := rfl
theorem seal_len (L : List Nat) : (sealBy L).length = L.length + 4 := by simp [sealBy, le4_len]

section
variable {w : World} {B : Nat} {O : Nat → Prop} {g : Nat} {dur : List Nat} {C : Nat → List (List Nat)}
set_option maxRecDepth 100000 in
set_option maxHeartbeats 1000000 in
theorem put_ok (h : Dk w B O g dur C false) (st : Nat) (hst : st < 8) (L : List Nat) (hL : L.length = 32) (b off cap : Nat) (hcap : 4 ≤ cap) (hr : Rd w (some ⟨b, off, none⟩) (bys L)) (hb : ∀ x ∈ L, x < 256) (hC : (C (26 + st)).length ≤ 1000000) :
    Calls Try.prog 8 #[.pointer (some ⟨g, 0, none⟩), .int .i64 (st : Int), .slice (some ⟨b, off, none⟩) 4 cap] w fun e w' => e = .returned (.int .i64 0) ∧ ∃ O', Dk w' B O' g dur (upC C (26 + st) (C (26 + st) ++ [pad (sealBy L)])) false ∧ Turns O w w' O' := by
  have HD := Lib.hid h
  have HR := Lib.hid hr
  have HT : Hid (∀ W b' off' cap', Rd W (some ⟨b', off', none⟩) (bys L) → Calls Try.prog 22 #[.slice (some ⟨b', off', none⟩) 4 cap', .func (.func 23) #[] #[]] W (NewBytes W (sealBy L))) := fun W b' off' cap' hW => together_any L hL b' off' cap' W hW hb
  have hsl := seal_len L
  rw [hL] at hsl
  have HSL := Lib.hid hsl
  have hbl := bys_length L
  rw [hL] at hbl
  have hi : (Try.prog.info? 61).map (·.size) = some (bys L).length := by rw [hbl]; kernel_rfl
  have HI := Lib.hid hi
  have HBL := Lib.hid hbl
  have hz := zb_run
  have har := arr61
  have hzl := zb_len
  have HZL := Lib.hid hzl
  have hone := bys_one L
  have HONE := Lib.hid hone
  clear h hr hb hsl hbl hi hzl hone hL
  generalize ZB = Z at *
  generalize sealBy L = S at *
  have HW : Hid (∀ W a c, Dk W B O g dur C false → Rd W a (bys S) → Calls Try.prog 11 #[.pointer (some ⟨g, 0, none⟩), .int .i64 (26 + (st : Int)), .slice a 36 c] W fun e w' => e = .returned (.int .i64 0) ∧ ∃ O', Dk w' B O' g dur (upC C (26 + st) (C (26 + st) ++ [pad S])) false ∧ Turns O W w' O') := fun W a c hD hW => by
    have := write_ok hD (26 + st) (by omega) S (by rw [HSL.out]; omega) a c hW hC
    rw [show (((26 + st : Nat)) : Int) = 26 + (st : Int) by omega, HSL.out] at this
    exact this
  have hs0 : (0 : Int) ≤ (st : Int) := by omega
  have hs8 : (st : Int) < 8 := by omega
  have hc4 : (4 : Int) ≤ (cap : Int) := by omega
  go_enter Try.func8, Try.ntmps8
  go_wp2_with (first | (go_at_call 21; refine (his_yes _ _ (by omega) (by omega)).mono ?_; rintro e w' ⟨rfl, rfl⟩) | (with_reducible refine wpList_load_mid (op := ⟨some 21, .load 61 (.tmp 20), _, _, _, none⟩) rfl 61 (.tmp 20) rfl b off rfl (bys L) _ (rd_range HR.out) Try.underlying61 rfl HI.out ?_) | (with_reducible refine wpList_store_mid (op := ⟨none, .store 61 (.tmp 7) (.tmp 21), _, _, _, none⟩) rfl 61 (.tmp 7) (.tmp 21) rfl w.heap.size 0 (bys L).toArray rfl rfl ?t1 ?t2 ?t3 ?_))
  case t1 => exact (At.new w _ _).there 0 _ (by simp [HZL.out, HBL.out])
  case t2 => simpa using HI.out
  case t3 => exact all_oneCell_toArray HONE.out
  have hA2 : At ((w.alloc (.cells Z.toArray 61)).setCells w.heap.size 0 (bys L)) w.heap.size 61 (bys L).toArray := At.all (At.new w _ _) (by rw [HZL.out, HBL.out])
  have HG2 : Hid (Grows w ((w.alloc (.cells Z.toArray 61)).setCells w.heap.size 0 (bys L))) := Grows.setCells (Nat.le_refl _) _ _ ((Grows.refl _).alloc _)
  generalize (w.alloc (.cells Z.toArray 61)).setCells w.heap.size 0 (bys L) = w2 at *
  have HR2 : Hid (Rd w2 (some ⟨w.heap.size, 0, none⟩) (bys L)) := .inr ⟨w.heap.size, 0, rfl, hA2.lt, fun i v hv => by rw [hA2.cell, Nat.zero_add]; simpa using hv⟩
  clear hA2 hz har
  refine (HT.out _ _ _ _ HR2.out).mono ?_
  rintro e w3 ⟨g3, c3, rfl, hN3⟩
  rw [HSL.out] at hN3 ⊢
  have HN3 := Lib.hid hN3
  have HG3 := Lib.hid (HG2.out.trans hN3.2)
  clear hN3
  go_wp2_with fail
  refine (HW.out _ _ _ (HD.out.grows HG3.out) HN3.out.rd).mono ?_
  rintro e w4 ⟨rfl, O4, hD4, hT4⟩
  have HD4 := Lib.hid hD4
  have HT4 := Lib.hid (hT4.after HG3.out)
  clear hD4 hT4
  go_wp2_with fail
  go_ret
  exact ⟨rfl, O4, HD4.out, HT4.out⟩
theorem put_bad (st : Int) (a : Option Addr) (n cap : Nat) (h : ¬ (0 ≤ st ∧ st < 8 ∧ n = 4)) : Calls Try.prog 8 #[.pointer (some ⟨g, 0, none⟩), .int .i64 st, .slice a n cap] w fun e w' => e = .returned (.int .i64 2) ∧ w = w' := by
  by_cases hs : 0 ≤ st ∧ st < 8
  · have h4 : ((n : Int) != 4) = true := by simp; omega
    go_enter Try.func8, Try.ntmps8
    go_wp2_with (first | (go_at_call 21; refine (his_yes _ _ hs.1 hs.2).mono ?_; rintro e w' ⟨rfl, rfl⟩))
    go_ret
    exact ⟨rfl, rfl⟩
  · go_enter Try.func8, Try.ntmps8
    go_wp2_with (first | (go_at_call 21; refine (his_no _ _ hs).mono ?_; rintro e w' ⟨rfl, rfl⟩))
    go_ret
    exact ⟨rfl, rfl⟩

/-- Blocks that read as l are handed back, in new memory. -/
def Blk (w : World) (l : List Nat) (e : Ending) (w' : World) : Prop := ∃ b c, e = .returned (.tuple #[.slice (some ⟨b, 0, none⟩) 4 c, .int .i64 0]) ∧ Rd w' (some ⟨b, 0, none⟩) (bys l) ∧ Grows w w'
/-- What Get answers, of a home's bytes. -/
def GetPost (w : World) (l : List Nat) (e : Ending) (w' : World) : Prop :=
  (zerosB l = true ∧ Blk w (List.replicate 32 0) e w') ∨ (zerosB l = false ∧ sealedB l 36 = true ∧ Blk w (l.take 32) e w') ∨
  (zerosB l = false ∧ sealedB l 36 = false ∧ e = .returned (.tuple #[.slice none 0 0, .int .i64 40]) ∧ Grows w w')
set_option maxRecDepth 100000 in
set_option maxHeartbeats 1000000 in
theorem get_ok (h : Dk w B O g dur C false) (st : Nat) (hst : st < 8) (hC : (C (26 + st)).length ≤ 1000000) (hb : ∀ x ∈ rdS dur C (26 + st), x < 256) :
    Calls Try.prog 12 #[.pointer (some ⟨g, 0, none⟩), .int .i64 (st : Int)] w (GetPost w (rdS dur C (26 + st))) := by
  have HRD : Hid (Calls Try.prog 10 #[.pointer (some ⟨g, 0, none⟩), .int .i64 (26 + (st : Int))] w (ReadPost w (rdS dur C (26 + st)))) := by
    have := read_ok h (26 + st) (by omega) hC
    rw [show (((26 + st : Nat)) : Int) = 26 + (st : Int) by omega] at this
    exact this
  generalize rdS dur C (26 + st) = l at *
  have HB := Lib.hid hb
  have hs0 : (0 : Int) ≤ (st : Int) := by omega
  have hs8 : (st : Int) < 8 := by omega
  have hz := zb_run
  have HZB : Hid (ZB = bys (List.replicate 32 0)) := rfl
  generalize ZB = Z at *
  clear h hb
  go_enter Try.func12, Try.ntmps12
  go_wp2_with (first | (go_at_call 21; refine (his_yes _ _ (by omega) (by omega)).mono ?_; rintro e w' ⟨rfl, rfl⟩))
  refine HRD.out.mono ?_
  rintro e w1 ⟨v, rfl, hN, hl⟩
  obtain ⟨g1, c1, rfl, _, _⟩ := own_form hN.1 (by omega)
  have hc1 := (own_cap hN.1).1
  have HR1 := Lib.hid hN.rd
  have HG1 := Lib.hid hN.2
  have HL := Lib.hid hl
  clear hN
  have HZ := Lib.hid (zeros_any l 64 hl _ c1 w1 HR1.out (by omega))
  cases hzl : zerosB l with
  | true =>
    rw [hzl] at HZ
    have HZL := Lib.hid hzl
    clear hzl hl
    go_wp2_with (first | (go_at_call 26; refine HZ.out.mono ?_; rintro e w' ⟨rfl, rfl⟩))
    go_ret2
    refine .inl ⟨HZL.out, w1.heap.size, _, rfl, ?_, HG1.out.alloc _⟩
    rw [← HZB.out]
    exact rd_new w1 Z.toArray _ (0, 0)
  | false =>
    rw [hzl] at HZ
    have HZL := Lib.hid hzl
    have HOP := Lib.hid (hopen_any l hl 36 (by omega) (by omega) g1 c1 hc1 w1 HR1.out HB.out)
    have HRV : Hid (∀ W a c, Rd W a (bys (l.take 32)) → 32 ≤ c → Calls Try.prog 28 #[.slice a 32 c] W fun e w' => ∃ g, e = .returned (.tuple #[.slice (some ⟨g, 0, none⟩) 4 4, .int .i64 0]) ∧ New W 35 8 4 (bys (l.take 32)) (.slice (some ⟨g, 0, none⟩) 4 4) w') := fun W a c hW hc => readValues_yes (l.take 32) 4 (by simp [hl]) a c W hW hc (by omega)
    have HL32 : Hid ((l.take (36 - 4)).length = 32) := by show _ = _; simp [hl]
    clear hzl hl
    cases hsd : sealedB l 36 with
    | false =>
      rw [hsd] at HOP
      have HSD := Lib.hid hsd
      clear hsd
      go_wp2_with (first | (go_at_call 26; refine HZ.out.mono ?_; rintro e w' ⟨rfl, rfl⟩))
      refine HOP.out.mono ?_
      intro e w2 h2
      rw [if_neg (by simp)] at h2
      obtain ⟨rfl, hG2⟩ := h2
      go_wp2_with fail
      go_ret2
      exact .inr (.inr ⟨HZL.out, HSD.out, rfl, HG1.out.trans hG2⟩)
    | true =>
      rw [hsd] at HOP
      have HSD := Lib.hid hsd
      clear hsd
      go_wp2_with (first | (go_at_call 26; refine HZ.out.mono ?_; rintro e w' ⟨rfl, rfl⟩))
      refine HOP.out.mono ?_
      intro e w2 h2
      rw [if_pos trivial] at h2
      obtain ⟨a2, c2, rfl, hN2⟩ := h2
      rw [HL32.out] at hN2 ⊢
      have hc2 := (own_cap hN2.1).1
      have HR2 : Hid (Rd w2 a2 (bys (l.take 32))) := hN2.rd
      have HG2 := Lib.hid (HG1.out.trans hN2.2)
      clear hN2
      go_wp2_with fail
      refine (HRV.out _ _ _ HR2.out hc2).mono ?_
      rintro e w3 ⟨g3, rfl, hN3⟩
      have HN3 := Lib.hid hN3
      clear hN3
      go_wp2_with fail
      go_ret2
      exact .inr (.inl ⟨HZL.out, HSD.out, g3, _, rfl, HN3.out.rd, HG2.out.trans HN3.out.2⟩)
end
end Go.Proofs.Ytmcofmidpedkiaa
