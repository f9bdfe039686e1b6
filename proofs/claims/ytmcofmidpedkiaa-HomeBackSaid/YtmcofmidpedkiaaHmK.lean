/-
  home: together of fields; PutSuper.
-/
import Derived.Test.YtmcofmidpedkiaaHmJ
namespace Go.Proofs.Ytmcofmidpedkiaa
open Go.RowKit Go.Maps

def fn (p : Nat × Nat) : Int × Int := (p.1, p.2)
def bodyOf (F : List (Nat × Nat)) : List Nat := F.flatMap fun p => digits p.1 p.2
theorem body_append (a b : List (Nat × Nat)) : bodyOf (a ++ b) = bodyOf a ++ bodyOf b := by simp [bodyOf]
theorem body_lt (F : List (Nat × Nat)) : ∀ x ∈ bodyOf F, x < 256 := by
  intro x hx
  obtain ⟨p, _, h⟩ := List.mem_flatMap.1 hx
  exact digits_lt _ _ x h
theorem body_len (F : List (Nat × Nat)) (h : ∀ p ∈ F, p.2 ≤ 6) : (bodyOf F).length ≤ 6 * F.length := by
  induction F with
  | nil => simp [bodyOf]
  | cons p F ih =>
    have h1 := ih fun q hq => h q (by simp [hq])
    have h2 := h p (by simp)
    have h3 : bodyOf (p :: F) = digits p.1 p.2 ++ bodyOf F := by simp [bodyOf]
    rw [h3, List.length_append, digits_length, List.length_cons]
    omega
set_option maxHeartbeats 1000000 in
theorem togetherF_any (F : List (Nat × Nat)) (hF : F.length = 13) (hfit : ∀ p ∈ F, fitsB p.1 p.2 = true) (b off cap : Nat) (w : World) (hr : Rd w (some ⟨b, off, none⟩) (rowsOf fc (F.map fn))) (hpos : 0 < (bodyOf F).length) :
    Calls Try.prog 31 #[.slice (some ⟨b, off, none⟩) 13 cap, .func (.func 33) #[] #[]] w (NewBytes w (sealBy (bodyOf F))) := by
  obtain ⟨i0, hi0, hz0, hz1, hz2⟩ := info_parts info_u8
  have H6 : Hid (∀ p ∈ F, p.2 ≤ 6) := fun p hp => by
    have := (fitsB_iff _ _).1 (hfit p hp)
    omega
  have hB := body_len F H6.out
  have HBk : Hid (∀ k, (bodyOf (F.take k)).length ≤ 78) := fun k => by
    have := body_len (F.take k) (fun p hp => H6.out p (List.mem_of_mem_take hp))
    rw [List.length_take] at this
    omega
  have HPOS := Lib.hid hpos
  have HSE : Hid (∀ a c W, Rd W a (bys (bodyOf F)) → (bodyOf F).length ≤ c → a ≠ none → Calls Try.prog 37 #[.slice a (bodyOf F).length c] W (NewBytes W (sealBy (bodyOf F)))) := fun a c W hW hc ha => seal_any (bodyOf F) _ rfl a c W (body_lt F) hW hc (fun h => absurd h ha) (by omega)
  have HR := Lib.hid hr
  have HF := Lib.hid hF
  have HFT := Lib.hid hfit
  clear hr hF hfit hB hpos
  go_enter Try.func31, Try.ntmps31
  go_wp2_with fail
  go_loopg [5, 10] 13 (fun gh t i wr => ∃ (k : Nat), k + gh = 13 ∧ i = .int .i64 (k : Int) ∧ wr.ownsRow w.heap.size 5 1 t (bodyOf (F.take k)).length (bys (bodyOf (F.take k))) ∧ Grows w wr)
  case atStart => exact ⟨0, by omega, rfl, World.ownsRow_nil w _ _ _, Grows.refl _⟩
  case round =>
    obtain ⟨k, hk, rfl, hown, hgr⟩ := hrel
    have HO := Lib.hid hown
    have HG := Lib.hid hgr
    clear hown hgr
    by_cases hlt : k < 13
    · have hlt' : (k : Int) < 13 := by omega
      have hk0 : (0 : Int) ≤ (k : Int) := by omega
      have hkF : k < F.length := by rw [HF.out]; exact hlt
      have HT : Hid (bodyOf (F.take (k + 1)) = bodyOf (F.take k) ++ digits F[k].1 F[k].2) := by
        show _ = _
        rw [List.take_succ_eq_append_getElem hkF, body_append]
        simp [bodyOf]
      have hfk := HFT.out F[k] (List.getElem_mem hkF)
      have h62 := H6.out F[k] (List.getElem_mem hkF)
      have hb1 := HBk.out k
      obtain ⟨hbl, hc⟩ := rows_cell_at (c := 2) fc_len (by omega) (HR.out.grows HG.out) (k := k) (x := fn F[k]) (by rw [List.getElem?_map, List.getElem?_eq_getElem hkF]; rfl)
      have c0 := hc 0 _ rfl
      have c1 := hc 1 _ rfl
      rw [Nat.add_zero] at c0
      generalize bodyOf (F.take k) = A at *
      generalize hxx : F[k].1 = x at *
      generalize hyy : F[k].2 = y at *
      unfold fn at c0 c1
      simp only [hxx, hyy] at c0 c1
      have HP := Lib.hid (fun W => putS1_any x y hfk W)
      clear hc hxx hyy hkF hfk
      go_wp2_with fail
      refine (HP.out _).mono ?_
      rintro e w2 ⟨_, rfl, a2, n2, rfl, hN⟩
      have HG2 := Lib.hid ((HG.out.alloc (.cells #[.int .i64 (x : Int), .int .i64 (y : Int)] 75)).trans hN.2)
      have HO2 := Lib.hid (own_grows (own_grows HO.out ((Grows.refl _).alloc (.cells #[.int .i64 (x : Int), .int .i64 (y : Int)] 75))) hN.2)
      have HR2 := Lib.hid (New.rd hN)
      have hdl := digits_length x y
      rw [hdl]
      generalize digits x y = D at *
      clear hN c0 c1 HP HO HG
      go_wp2_with (at_builtin; refine wpList_append_rd _ rfl (.tmp 14) (.tmp 17) 28 rfl w.heap.size 5 i0 _ 1 1 Try.underlying28 hi0 hz0 hz1 hz2 rfl (by decide) u5 A.length _ rfl HO2.out a2 y n2 (bys D) rfl HR2.out ?q1 (bys_one _) ?q3 ?q4 HG2.out.size ?_)
      case q1 => rw [bys_length, hdl, Nat.mul_one]
      case q3 => unfold maxLen; omega
      case q4 => omega
      intro v7 w7 hown7 hgr7 _
      have HO7 := Lib.hid hown7
      have HG7 : Hid (Grows w w7) := HG2.out.grown hgr7 (by intro k hk; exact (HO2.out.lt k hk).1)
      have HDL := Lib.hid hdl
      clear hown7 hgr7 hdl
      go_wp2_with fail
      go_roundg (gk - 1)
      case measure => omega
      case rel => exact ⟨k + 1, by omega, by go_num, by rw [HT.out, List.length_append, bys_append, HDL.out]; exact HO7.out, HG7.out⟩
    · obtain rfl : k = 13 := by omega
      have hO := HO.out
      rw [List.take_of_length_le (by rw [HF.out]; omega)] at hO
      obtain ⟨g4, c4, rfl, _, _⟩ := own_form hO HPOS.out
      have hc4 := (own_cap hO).1
      have HR4 := Lib.hid (Rd.own hO)
      clear hO HO
      generalize bodyOf F = A at *
      go_wp2_with fail
      refine (HSE.out _ _ _ HR4.out hc4 (by simp)).mono ?_
      rintro e w5 ⟨g5, c5, rfl, hN⟩
      have HN5 := Lib.hid hN
      clear hN
      generalize sealBy A = N at *
      go_wp2_with fail
      go_ret
      exact ⟨g5, c5, rfl, own_lower HN5.out.1 HG.out.size, HG.out.trans HN5.out.2⟩

/-- A superblock's fields, as they are laid. -/
def fldN (n t u i b : Nat) (M : List Nat) : List (Nat × Nat) := [(n, 6), (t, 6), (u, 1), (i, 3), (b, 3)] ++ M.map fun z => (z, 1)
theorem flds_fn (n t u i b : Nat) (M : List Nat) : flds n t u i b (M.map fun (z : Nat) => (z : Int)) = (fldN n t u i b M).map fn := by
  simp [flds, fldN, fn]
theorem fld_fit (n t u i b : Nat) (M : List Nat) (h : mayB n t u i b (M.map fun (z : Nat) => (z : Int)) = true) : ∀ p ∈ fldN n t u i b M, fitsB p.1 p.2 = true := by
  unfold mayB at h
  simp only [Bool.and_eq_true, inB_iff, List.all_eq_true, List.mem_map] at h
  intro p hp
  rw [fitsB_iff]
  simp only [fldN, List.mem_append, List.mem_cons, List.not_mem_nil, or_false, List.mem_map] at hp
  rcases hp with (rfl | rfl | rfl | rfl | rfl) | ⟨z, hz, rfl⟩
  · exact ⟨by simp, by simp, by omega, by simp; omega⟩
  · exact ⟨by simp, by simp, by omega, by simp; omega⟩
  · exact ⟨by simp, by simp, by omega, by simp; omega⟩
  · exact ⟨by simp, by simp, by omega, by simp; omega⟩
  · exact ⟨by simp, by simp, by omega, by simp; omega⟩
  · have := h.1 z ⟨z, hz, rfl⟩
    exact ⟨by simp, by simp, by omega, by simp; omega⟩
theorem body27 (n t u i b : Nat) (M : List Nat) (h : M.length = 8) : (bodyOf (fldN n t u i b M)).length = 27 := by
  have h1 : (bodyOf (M.map fun z => (z, 1))).length = M.length := by
    clear h
    induction M with
    | nil => rfl
    | cons x xs ih =>
      have : bodyOf ((x :: xs).map fun z => (z, 1)) = digits x 1 ++ bodyOf (xs.map fun z => (z, 1)) := by simp [bodyOf]
      rw [this, List.length_append, ih, digits_length, List.length_cons]
      omega
  rw [fldN, body_append, List.length_append, h1, h]
  rfl
section
variable {w : World} {B : Nat} {O : Nat → Prop} {g : Nat} {dur : List Nat} {C : Nat → List (List Nat)}
theorem ps_bad (n t u i b o0 o1 o2 o3 o4 o5 o6 o7 : Int) (h : mayB n t u i b [o0, o1, o2, o3, o4, o5, o6, o7] = false) (w : World) (g : Nat) : Calls Try.prog 14 #[.pointer (some ⟨g, 0, none⟩), supv n t u i b o0 o1 o2 o3 o4 o5 o6 o7] w fun e w' => e = .returned (.int .i64 2) ∧ Grows w w' := by
  have HM := Lib.hid (may_any n t u i b o0 o1 o2 o3 o4 o5 o6 o7 _ rfl (w.alloc (.cells #[.int .i64 n, .int .i64 t, .int .i64 u, .int .i64 i, .int .i64 b, .int .i64 o0, .int .i64 o1, .int .i64 o2, .int .i64 o3, .int .i64 o4, .int .i64 o5, .int .i64 o6, .int .i64 o7] 39)))
  rw [h] at HM
  unfold supv at *
  have ca := (At.new w 39 #[.int .i64 n, .int .i64 t, .int .i64 u, .int .i64 i, .int .i64 b, .int .i64 o0, .int .i64 o1, .int .i64 o2, .int .i64 o3, .int .i64 o4, .int .i64 o5, .int .i64 o6, .int .i64 o7]).cell
  clear h
  go_enter Try.func14, Try.ntmps14
  go_wp2_with fail
  refine HM.out.mono ?_
  rintro e w2 ⟨rfl, hG⟩
  go_wp2_with fail
  go_ret
  exact ⟨rfl, ((Grows.refl w).alloc _).trans hG⟩
set_option maxHeartbeats 1000000 in
theorem ps_ok (h : Dk w B O g dur C false) (n t u i b o0 o1 o2 o3 o4 o5 o6 o7 : Nat) (hm : mayB n t u i b ([o0, o1, o2, o3, o4, o5, o6, o7].map fun (z : Nat) => (z : Int)) = true) (hC : (C (n % 2)).length ≤ 1000000) :
    Calls Try.prog 14 #[.pointer (some ⟨g, 0, none⟩), supv n t u i b o0 o1 o2 o3 o4 o5 o6 o7] w fun e w' => e = .returned (.int .i64 0) ∧ ∃ O', Dk w' B O' g dur (upC C (n % 2) (C (n % 2) ++ [pad (sealBy (bodyOf (fldN n t u i b [o0, o1, o2, o3, o4, o5, o6, o7])))])) false ∧ Turns O w w' O' := by
  have HM := Lib.hid (fun W => may_any n t u i b o0 o1 o2 o3 o4 o5 o6 o7 _ rfl W)
  have HFD := Lib.hid (fun W => fields_any n t u i b o0 o1 o2 o3 o4 o5 o6 o7 _ rfl W)
  have HFIT := Lib.hid (fld_fit n t u i b [o0, o1, o2, o3, o4, o5, o6, o7] hm)
  have HFN := Lib.hid (flds_fn n t u i b [o0, o1, o2, o3, o4, o5, o6, o7])
  have H27 := Lib.hid (body27 n t u i b [o0, o1, o2, o3, o4, o5, o6, o7] rfl)
  have H13 : Hid ((fldN n t u i b [o0, o1, o2, o3, o4, o5, o6, o7]).length = 13) := Lib.hid rfl
  simp only [List.map_cons, List.map_nil] at hm HFN
  rw [hm] at HM
  rw [HFN.out] at HFD
  generalize fldN n t u i b [o0, o1, o2, o3, o4, o5, o6, o7] = F at *
  unfold supv at *
  have HD := Lib.hid h
  have HA := Lib.hid (At.new w 39 #[.int .i64 (n : Int), .int .i64 (t : Int), .int .i64 (u : Int), .int .i64 (i : Int), .int .i64 (b : Int), .int .i64 (o0 : Int), .int .i64 (o1 : Int), .int .i64 (o2 : Int), .int .i64 (o3 : Int), .int .i64 (o4 : Int), .int .i64 (o5 : Int), .int .i64 (o6 : Int), .int .i64 (o7 : Int)])
  have ca := HA.out.cell
  clear h hm HFN
  go_enter Try.func14, Try.ntmps14
  go_wp2_with fail
  refine (HM.out _).mono ?_
  rintro e w2 ⟨rfl, hG2⟩
  have HG2 := Lib.hid (((Grows.refl w).alloc _).trans hG2)
  have HA2 := Lib.hid (HA.out.grows hG2)
  clear hG2 ca
  have ca := HA2.out.cell
  go_wp2_with fail
  refine (HFD.out _).mono ?_
  rintro e w3 ⟨v, rfl, hN⟩
  obtain ⟨g3, c3, rfl, _, _⟩ := own_form hN.1 (by omega)
  have HG3 := Lib.hid (HG2.out.trans hN.2)
  have HA3 := Lib.hid (HA2.out.grows hN.2)
  have HR3 := Lib.hid (Rd.own hN.1)
  clear hN ca
  go_wp2_with fail
  refine (togetherF_any F H13.out HFIT.out _ _ _ _ HR3.out (by rw [H27.out]; omega)).mono ?_
  rintro e w4 ⟨g4, c4, rfl, hN⟩
  have HG4 := Lib.hid (HG3.out.trans hN.2)
  have ca := (HA3.out.grows hN.2).cell
  have HR4 := Lib.hid (Rd.own hN.1)
  have hsl := seal_len (bodyOf F)
  rw [H27.out] at hsl
  have HW := Lib.hid (write_ok (HD.out.grows HG4.out) (n % 2) (by omega) (sealBy (bodyOf F)) (by omega) _ c4 HR4.out hC)
  rw [hsl] at HW ⊢
  clear hN HR4 hC
  rw [show ((n % 2 : Nat) : Int) = (n : Int) % 2 by omega] at HW
  go_wp2_with fail
  refine HW.out.mono ?_
  rintro e w5 ⟨rfl, O5, hD5, hT5⟩
  have HX := Lib.hid (And.intro hD5 (hT5.after HG4.out))
  clear hD5 hT5
  go_wp2_with fail
  go_ret
  exact ⟨rfl, O5, HX.out.1, HX.out.2⟩
end
end Go.Proofs.Ytmcofmidpedkiaa
