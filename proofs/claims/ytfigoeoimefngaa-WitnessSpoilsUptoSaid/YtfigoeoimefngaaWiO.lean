/-
  The law's wroteBy.
-/
import Derived.Test.YtfigoeoimefngaaWiN
import Derived.Deep.QuietTactic
namespace Go.Proofs.Ytfigoeoimefngaa
open Go.RowKit Go.Maps Go.Shelf

def wrB (b : Int) (v : List Int) (x : Sn) : Bool := decide (x.k = 2) && decide (x.b = b) && decide (x.val = v)
theorem any_take {α : Type} {p : α → Bool} {L : List α} {k : Nat} {x : α} (h : L[k]? = some x) (h0 : (L.take k).any p = false) (hx : p x = false) : (L.take (k + 1)).any p = false := by
  rw [List.take_add_one, h, List.any_append, h0]; simp [hx]
theorem any_hit {α : Type} {p : α → Bool} {L : List α} {k : Nat} {x : α} (h : L[k]? = some x) (hx : p x = true) : L.any p = true := List.any_eq_true.2 ⟨x, List.mem_of_getElem? h, hx⟩
set_option maxRecDepth 100000 in
set_option maxHeartbeats 4000000 in
theorem wroteBy_any (L : List Sn) (n : Nat) (hn : L.length = n) (hL : n ≤ 1000) (a : Option Addr) (cap : Nat) (b : Int) (v : List Int) (hv : v.length = 8) (w : World) (hr : Rd w a (rowsOf Sn.cs L)) :
    Calls Try.prog 12 #[.slice a n cap, .int .i64 b, .agg (ivs v).toArray] w fun e w' => e = .returned (.bool (L.any (wrB b v))) ∧ Grows w w' := by
  obtain ⟨y0, y1, y2, y3, y4, y5, y6, y7, rfl⟩ := eight_of hv
  have HR := Lib.hid hr
  have HN := Lib.hid hn
  have HNL := Lib.hid hL
  have HBN := Lib.hid (At.new w 31 #[.int .u8 y0, .int .u8 y1, .int .u8 y2, .int .u8 y3, .int .u8 y4, .int .u8 y5, .int .u8 y6, .int .u8 y7])
  clear hr hn hL hv
  unfold ivs
  simp only [List.map_cons, List.map_nil]
  go_enter Try.func12, Try.ntmps12
  go_wp2_with fail
  go_loopg [7] n (fun gk v7 wr => ∃ k : Nat, gk + k = n ∧ v7 = .int .i64 (k : Int) ∧ Grows w wr ∧ (L.take k).any (wrB b [y0, y1, y2, y3, y4, y5, y6, y7]) = false ∧ At wr w.heap.size 31 #[.int .u8 y0, .int .u8 y1, .int .u8 y2, .int .u8 y3, .int .u8 y4, .int .u8 y5, .int .u8 y6, .int .u8 y7])
  case atStart => exact ⟨0, by omega, rfl, (Grows.refl _).alloc _, rfl, HBN.out⟩
  case round =>
    obtain ⟨k, hk, rfl, hg, h0, hb⟩ := hrel
    have HGW := Lib.hid hg
    have H0 := Lib.hid h0
    have HBX := Lib.hid hb
    clear hg h0 hb
    by_cases hlt : k < n
    · have hkl : k < L.length := by rw [HN.out]; exact hlt
      obtain ⟨g, off, rfl, hgw, hc⟩ := cells14 (HR.out.grows HGW.out) hkl
      have HXK : Hid (L[k]? = some L[k]) := Lib.hid (List.getElem?_eq_getElem hkl)
      generalize L[k] = x at *
      obtain ⟨c0, c1, c2, c3, c4, c5, c6, c7, c8, c9, c10, c11, c12, c13⟩ := cells14_at hc
      have cb := HBX.out.cell
      have he : ∀ W, (Op.equalIn 10000 31 (.agg #[.int .u8 x.x0, .int .u8 x.x1, .int .u8 x.x2, .int .u8 x.x3, .int .u8 x.x4, .int .u8 x.x5, .int .u8 x.x6, .int .u8 x.x7]) (.agg #[.int .u8 y0, .int .u8 y1, .int .u8 y2, .int .u8 y3, .int .u8 y4, .int .u8 y5, .int .u8 y6, .int .u8 y7])).run Try.prog W = .ok (decide (x.val = [y0, y1, y2, y3, y4, y5, y6, y7])) W := fun W => eq8_any W x.val [y0, y1, y2, y3, y4, y5, y6, y7] rfl rfl
      have hlt' : (k : Int) < (n : Int) := by omega
      have hk0 : (0 : Int) ≤ (k : Int) := by omega
      have hwr : IntKind.i64.wrap ((k : Int) + 1) = (k : Int) + 1 := IntWalk.i64_in _ (by have := HNL.out; omega)
      clear hc hkl
      by_cases h1 : x.k = 2
      · have e1 : (x.k == (2 : Int)) = true := by simp [h1]
        by_cases h2 : x.b = b
        · have e2 : (x.b == b) = true := by simp [h2]
          by_cases h3 : x.val = [y0, y1, y2, y3, y4, y5, y6, y7]
          · rw [decide_eq_true h3] at he
            have HX : Hid (wrB b [y0, y1, y2, y3, y4, y5, y6, y7] x = true) := Lib.hid (by simp [wrB, h1, h2, h3])
            clear h1 h2 h3
            go_wp2_with fail
            go_quiet (fail)
            go_wp2_with fail
            go_ret
            exact ⟨by rw [any_hit HXK.out HX.out]; rfl, HGW.out.drewN _⟩
          · rw [decide_eq_false h3] at he
            have HX : Hid (wrB b [y0, y1, y2, y3, y4, y5, y6, y7] x = false) := Lib.hid (by simp [wrB, h3])
            clear h1 h2 h3
            go_wp2_with fail
            go_quiet (fail)
            go_wp2_with fail
            go_roundg (gk - 1)
            case measure => omega
            exact ⟨k + 1, by omega, rfl, HGW.out.drewN _, any_take HXK.out H0.out HX.out, HBX.out.grows ((Grows.refl _).drewN _)⟩
        · have e2 : (x.b == b) = false := by simp [h2]
          have HX : Hid (wrB b [y0, y1, y2, y3, y4, y5, y6, y7] x = false) := Lib.hid (by simp [wrB, h2])
          clear h1 h2
          go_wp2_with fail
          go_quiet (fail)
          go_wp2_with fail
          go_roundg (gk - 1)
          case measure => omega
          exact ⟨k + 1, by omega, rfl, HGW.out.drewN _, any_take HXK.out H0.out HX.out, HBX.out.grows ((Grows.refl _).drewN _)⟩
      · have e1 : (x.k == (2 : Int)) = false := by simp [h1]
        have HX : Hid (wrB b [y0, y1, y2, y3, y4, y5, y6, y7] x = false) := Lib.hid (by simp [wrB, h1])
        clear h1
        go_wp2_with fail
        go_quiet (fail)
        go_wp2_with fail
        go_roundg (gk - 1)
        case measure => omega
        exact ⟨k + 1, by omega, rfl, HGW.out.drewN _, any_take HXK.out H0.out HX.out, HBX.out.grows ((Grows.refl _).drewN _)⟩
    · have : k = n := by omega
      subst this
      have HF : Hid (L.any (wrB b [y0, y1, y2, y3, y4, y5, y6, y7]) = false) := Lib.hid (by have := H0.out; rwa [← HN.out, List.take_length] at this)
      clear hlt
      go_wp2_with fail
      go_ret
      exact ⟨by rw [HF.out]; rfl, HGW.out⟩
end Go.Proofs.Ytfigoeoimefngaa
