/-
  home.Put, Get.
-/
import Derived.Test.YtmcofmidpedkiaaHmA
import Derived.Test.YtmcofmidpedkiaaRws
namespace Go.Proofs.Ytmcofmidpedkiaa
open Go.RowKit

/-- A block's eight bytes. -/
def vc (l : List Nat) (k : Nat) : List Nat := (l.drop (k * 8)).take 8
theorem put1_any (l : List Nat) (w : World) : Calls Try.prog 23 #[.agg (bys l).toArray] w fun e w' => ∃ h, e = .returned (.slice (some ⟨h, 0, none⟩) 8 8) ∧ Rd w' (some ⟨h, 0, none⟩) (bys l) ∧ Grows w w' := by
  have HR := Lib.hid (rd_new w (bys l).toArray 35 (0, 0))
  generalize bys l = c at *
  go_enter Try.func23, Try.ntmps23
  go_wp2_with fail
  go_ret
  exact ⟨w.heap.size, rfl, HR.out, (Grows.refl _).alloc _⟩
theorem eight {l : List Nat} (h : l.length = 8) : ∃ x0 x1 x2 x3 x4 x5 x6 x7, l = [x0, x1, x2, x3, x4, x5, x6, x7] := by
  match l, h with
  | [x0, x1, x2, x3, x4, x5, x6, x7], _ => exact ⟨x0, x1, x2, x3, x4, x5, x6, x7, rfl⟩
theorem take_vc (L : List Nat) (k : Nat) : L.take ((k + 1) * 8) = L.take (k * 8) ++ vc L k := by
  rw [Nat.succ_mul, List.take_add, vc]
/-- The cells of a block, one by one. -/
theorem vc_cells {w : World} {b off : Nat} {L : List Nat} {x0 x1 x2 x3 x4 x5 x6 x7 : Nat} (h : Rd w (some ⟨b, off, none⟩) (bys L)) (k : Nat) (hv : vc L k = [x0, x1, x2, x3, x4, x5, x6, x7]) :
    b < w.heap.size ∧ ∀ i v, ([.int .u8 x0, .int .u8 x1, .int .u8 x2, .int .u8 x3, .int .u8 x4, .int .u8 x5, .int .u8 x6, .int .u8 x7] : List Value)[i]? = some v → w.cell? ⟨b, off + k * 8 + i, none⟩ = some v := by
  have hlen : k * 8 + 8 ≤ L.length := by
    have := congrArg List.length hv
    simp [vc] at this
    omega
  obtain ⟨b', off', e, hb, hc⟩ := h.at (by rw [bys_length]; omega)
  cases e
  refine ⟨hb, fun i v hi => ?_⟩
  have hi8 : i < 8 := (List.getElem?_eq_some_iff.1 hi).1
  have h1 := hc (k * 8 + i) (by rw [bys_length]; omega)
  rw [show off + k * 8 + i = off + (k * 8 + i) by omega, h1, ← List.getElem?_eq_getElem]
  have h2 : (bys (vc L k))[i]? = some v := by rw [hv]; exact hi
  rw [vc, bys_cut, List.getElem?_take_of_lt hi8, List.getElem?_drop] at h2
  exact h2

set_option maxHeartbeats 1000000 in
theorem together_any (L : List Nat) (hL : L.length = 32) (b off cap : Nat) (w : World) (hr : Rd w (some ⟨b, off, none⟩) (bys L)) (hb : ∀ x ∈ L, x < 256) :
    Calls Try.prog 22 #[.slice (some ⟨b, off, none⟩) 4 cap, .func (.func 23) #[] #[]] w (NewBytes w (L ++ Crc.le4 (Crc.sum L))) := by
  obtain ⟨i0, hi0, hz0, hz1, hz2⟩ := info_parts info_u8
  have HSE : Hid (∀ a c W, Rd W a (bys L) → 32 ≤ c → a ≠ none → Calls Try.prog 37 #[.slice a 32 c] W (NewBytes W (L ++ Crc.le4 (Crc.sum L)))) := fun a c W hW hc ha => seal_any L 32 hL a c W hb hW hc (fun h => absurd h ha) (by omega)
  have HR := Lib.hid hr
  have HL := Lib.hid hL
  clear hr hL hb
  go_enter Try.func22, Try.ntmps22
  go_wp2_with fail
  go_loopg [5, 10] 4 (fun gh t i wr => ∃ (k : Nat), k + gh = 4 ∧ i = .int .i64 (k : Int) ∧ wr.ownsRow w.heap.size 5 1 t (k * 8) (bys (L.take (k * 8))) ∧ Grows w wr)
  case atStart => exact ⟨0, by omega, rfl, World.ownsRow_nil w _ _ _, Grows.refl _⟩
  case round =>
    obtain ⟨k, hk, rfl, hown, hgr⟩ := hrel
    have HO := Lib.hid hown
    have HG := Lib.hid hgr
    clear hown hgr
    by_cases hlt : k < 4
    · have hlt' : (k : Int) < 4 := by omega
      have hk0 : (0 : Int) ≤ (k : Int) := by omega
      have hvl : (vc L k).length = 8 := by have := HL.out; simp [vc]; omega
      have HT := Lib.hid (take_vc L k)
      obtain ⟨x0, x1, x2, x3, x4, x5, x6, x7, hv⟩ := eight hvl
      obtain ⟨hbl, hc⟩ := vc_cells (HR.out.grows HG.out) k hv
      have c0 := hc 0 _ rfl
      have c1 := hc 1 _ rfl
      have c2 := hc 2 _ rfl
      have c3 := hc 3 _ rfl
      have c4 := hc 4 _ rfl
      have c5 := hc 5 _ rfl
      have c6 := hc 6 _ rfl
      have c7 := hc 7 _ rfl
      rw [Nat.add_zero] at c0
      have HV := Lib.hid hv
      clear hc hv hvl
      go_wp2_with fail
      refine (put1_any [x0, x1, x2, x3, x4, x5, x6, x7] _).mono ?_
      rintro e w2 ⟨h2, rfl, hr2, hg2⟩
      have HG2 := Lib.hid ((HG.out.alloc (.cells #[.int .u8 x0, .int .u8 x1, .int .u8 x2, .int .u8 x3, .int .u8 x4, .int .u8 x5, .int .u8 x6, .int .u8 x7] 35)).trans hg2)
      have HO2 := Lib.hid (own_grows (own_grows HO.out ((Grows.refl _).alloc (.cells #[.int .u8 x0, .int .u8 x1, .int .u8 x2, .int .u8 x3, .int .u8 x4, .int .u8 x5, .int .u8 x6, .int .u8 x7] 35))) hg2)
      have HR2 := Lib.hid hr2
      clear hr2 hg2 c0 c1 c2 c3 c4 c5 c6 c7
      go_wp2_with (at_builtin; refine wpList_append_rd _ rfl (.tmp 14) (.tmp 17) 28 rfl w.heap.size 5 i0 _ 1 1 Try.underlying28 hi0 hz0 hz1 hz2 rfl (by decide) u5 (k * 8) _ rfl HO2.out (some ⟨h2, 0, none⟩) 8 8 (bys [x0, x1, x2, x3, x4, x5, x6, x7]) rfl HR2.out ?q1 (bys_one _) ?q3 ?q4 HG2.out.size ?_)
      case q1 => rfl
      case q3 => unfold maxLen; omega
      case q4 => omega
      intro v7 w7 hown7 hgr7 _
      have HO7 := Lib.hid hown7
      have HG7 : Hid (Grows w w7) := HG2.out.grown hgr7 (by intro k hk; exact (HO2.out.lt k hk).1)
      clear hown7 hgr7
      go_wp2_with fail
      go_roundg (gk - 1)
      case measure => omega
      case rel => exact ⟨k + 1, by omega, by go_num, by rw [HT.out, HV.out, bys_append, Nat.succ_mul]; exact HO7.out, HG7.out⟩
    · obtain rfl : k = 4 := by omega
      have hO := HO.out
      rw [List.take_of_length_le (by rw [HL.out]; omega)] at hO
      obtain ⟨g4, c4, rfl, _, _⟩ := own_form hO (by omega)
      have hc4 := (own_cap hO).1
      have HR4 := Lib.hid (Rd.own hO)
      clear hO HO
      go_wp2_with fail
      refine (HSE.out _ _ _ HR4.out hc4 (by simp)).mono ?_
      rintro e w5 ⟨g5, c5, rfl, hN⟩
      have HN5 := Lib.hid hN
      clear hN
      generalize L ++ Crc.le4 (Crc.sum L) = M at *
      go_wp2_with fail
      go_ret
      exact ⟨g5, c5, rfl, own_lower HN5.out.1 HG.out.size, HG.out.trans HN5.out.2⟩
end Go.Proofs.Ytmcofmidpedkiaa
