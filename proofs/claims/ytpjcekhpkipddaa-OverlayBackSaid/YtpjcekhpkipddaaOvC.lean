/-
  overlay.Get.
-/
import Derived.Test.YtpjcekhpkipddaaOvB
namespace Go.Proofs.Ytpjcekhpkipddaa
open Go.RowKit

def fnd (l : List Wr) (key : Int) : Option Wr := l.find? (fun x => x.1 == key)
def getV (l : List Wr) (key : Int) : List Nat := ((fnd l key).map (·.2)).getD [0, 0, 0, 0, 0, 0, 0, 0]
theorem drop_fnd {l : List Wr} {k : Nat} (h : k < l.length) {b : Int} {v : List Nat} (he : l[k] = (b, v)) (key : Int) : fnd (l.drop k) key = (if b = key then some (b, v) else fnd (l.drop (k + 1)) key) := by
  rw [List.drop_eq_getElem_cons h, he, fnd, List.find?_cons]
  by_cases hb : b = key
  · simp [hb]
  · have : (b == key) = false := by simpa using hb
    simp only [this, if_neg hb]
    rfl
theorem fnd_some (l : List Wr) (key : Int) : (fnd l key).isSome = l.any (fun x => x.1 == key) := by
  rw [Bool.eq_iff_iff, fnd, List.find?_isSome]
  simp

def getR (l : List Wr) (key : Int) : Value := .tuple #[.agg (bys (getV l key)).toArray, .bool (fnd l key).isSome]

set_option maxHeartbeats 1000000 in
theorem get_any (l : List Wr) (n : Nat) (hn : l.length = n) (h8 : W8 l) (a : Option Addr) (cap : Nat) (key : Int) (w : World) (hrd : Rd w a (wrs l)) (hl : n ≤ 1000000) :
    Calls Try.prog 8 #[.slice a n cap, .int .i64 key] w fun e w' => e = .returned (getR l key) ∧ Grows w w' := by
  have Hrd := Lib.hid hrd
  have H8 := Lib.hid h8
  have HN := Lib.hid hn
  clear hrd h8 hn
  go_enter Try.func8, Try.ntmps8
  go_wp2_with fail
  go_loopg [10] n (fun gh i wr => ∃ (k : Nat), k + gh = n ∧ i = .int .i64 (k : Int) ∧ Grows w wr ∧ At wr w.heap.size 24 #[.int .u8 0, .int .u8 0, .int .u8 0, .int .u8 0, .int .u8 0, .int .u8 0, .int .u8 0, .int .u8 0] ∧ fnd l key = fnd (l.drop k) key)
  case atStart => exact ⟨0, by omega, rfl, (Grows.refl _).alloc _, At.new w _ _, rfl⟩
  case round =>
    obtain ⟨k, hk, rfl, hg, hat, hf⟩ := hrel
    have HF := Lib.hid hf
    have HA := Lib.hid hat
    have hc0 := hat.cell
    have hf0 := hat.frozen
    have hw0 := hat.lt
    clear hf hat
    by_cases hlt : k < n
    · obtain ⟨g, off, b, x0, x1, x2, x3, x4, x5, x6, x7, rfl, hgw, hek, c0, c1, c2, c3, c4, c5, c6, c7, c8⟩ := cells9 H8.out (Hrd.out.grows hg) (k := k) (by rw [HN.out]; exact hlt)
      have HD := Lib.hid (drop_fnd (by rw [HN.out]; exact hlt) hek key)
      clear hek
      have hlt' : (k : Int) < (n : Int) := by omega
      have hk0 : (0 : Int) ≤ (k : Int) := by omega
      by_cases hb : b = key
      · subst hb
        have A2 := HA.out.alloc (.cells #[.int .i64 b, .int .u8 x0, .int .u8 x1, .int .u8 x2, .int .u8 x3, .int .u8 x4, .int .u8 x5, .int .u8 x6, .int .u8 x7] 26)
        have hc2 := A2.cell
        have hf2 := A2.frozen
        have HR : Hid (getR l b = .tuple #[.agg #[.int .u8 x0, .int .u8 x1, .int .u8 x2, .int .u8 x3, .int .u8 x4, .int .u8 x5, .int .u8 x6, .int .u8 x7], .bool true]) := by
          show _ = _
          have h := HF.out
          rw [HD.out, if_pos rfl] at h
          rw [getR, getV, h]
          rfl
        clear A2
        go_wp2_with fail
        refine bodyPost_ret (v := .tuple #[.agg #[.int .u8 x0, .int .u8 x1, .int .u8 x2, .int .u8 x3, .int .u8 x4, .int .u8 x5, .int .u8 x6, .int .u8 x7], .bool true]) (by simp [results, Try.results8, go_sem, hc0, World.cell?_alloc_lt, hw0]) rfl ⟨by rw [HR.out], ?_⟩
        exact ((((((((hg.setCell (Nat.le_refl _) _).setCell (Nat.le_refl _) _).setCell (Nat.le_refl _) _).setCell (Nat.le_refl _) _).setCell (Nat.le_refl _) _).setCell (Nat.le_refl _) _).setCell (Nat.le_refl _) _).setCell (Nat.le_refl _) _).alloc _
      · have hb' : (b == key) = false := by simpa using hb
        go_wp2_with fail
        go_roundg (gk - 1)
        case measure => omega
        case rel =>
          refine ⟨k + 1, by omega, by go_num, hg.alloc _, HA.out.alloc _, ?_⟩
          rw [HF.out, HD.out, if_neg hb]
    · obtain rfl : k = n := by omega
      have HR : Hid (getR l key = .tuple #[.agg #[.int .u8 0, .int .u8 0, .int .u8 0, .int .u8 0, .int .u8 0, .int .u8 0, .int .u8 0, .int .u8 0], .bool false]) := by
        show _ = _
        have h := HF.out
        rw [List.drop_of_length_le (by rw [HN.out]; exact Nat.le_refl _)] at h
        rw [getR, getV, h]
        rfl
      go_wp2_with fail
      refine bodyPost_ret (v := .tuple #[.agg #[.int .u8 0, .int .u8 0, .int .u8 0, .int .u8 0, .int .u8 0, .int .u8 0, .int .u8 0, .int .u8 0], .bool false]) (by simp [results, Try.results8, go_sem, hc0]) rfl ⟨by rw [HR.out], ?_⟩
      exact ((((((((hg.setCell (Nat.le_refl _) _).setCell (Nat.le_refl _) _).setCell (Nat.le_refl _) _).setCell (Nat.le_refl _) _).setCell (Nat.le_refl _) _).setCell (Nat.le_refl _) _).setCell (Nat.le_refl _) _).setCell (Nat.le_refl _) _)
end Go.Proofs.Ytpjcekhpkipddaa
