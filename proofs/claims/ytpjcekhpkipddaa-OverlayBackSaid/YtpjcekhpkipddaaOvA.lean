/-
  record.Written, overlay.is, block, place, Get.
-/
import Derived.Test.YtpjcekhpkipddaaOvM
import Derived.Test.YtpjcekhpkipddaaApp
namespace Go.Proofs.Ytpjcekhpkipddaa
open Go.RowKit

theorem is_any (k : Int) (w : World) : Calls Try.prog 14 #[.int .i64 k] w fun e w' => e = .returned (.bool (isB k)) ∧ w = w' := by
  by_cases h1 : 0 ≤ k
  · by_cases h2 : k < 32
    · have : isB k = true := by simp [isB, h1, h2]
      rw [this]
      go_enter Try.func14, Try.ntmps14
      go_wp2
      go_ret
      exact ⟨rfl, rfl⟩
    · have : isB k = false := by simp [isB, h2]
      rw [this]
      go_enter Try.func14, Try.ntmps14
      go_wp2
      go_ret
      exact ⟨rfl, rfl⟩
  · have : isB k = false := by simp [isB, h1]
    rw [this]
    go_enter Try.func14, Try.ntmps14
    go_wp2
    go_ret
    exact ⟨rfl, rfl⟩

theorem block_any (b : Int) (x0 x1 x2 x3 x4 x5 x6 x7 : Nat) (w : World) : Calls Try.prog 16 #[.agg #[.int .i64 b, .int .u8 x0, .int .u8 x1, .int .u8 x2, .int .u8 x3, .int .u8 x4, .int .u8 x5, .int .u8 x6, .int .u8 x7]] w fun e w' => e = .returned (.int .i64 b) ∧ Grows w w' := by
  go_enter Try.func16, Try.ntmps16
  go_wp2
  go_ret
  refine ⟨rfl, ?_⟩
  repeat (first | exact Grows.refl _ | refine Grows.alloc ?_ _ | refine Grows.drew ?_)

theorem drop_up {l : List Wr} {k : Nat} (h : k < l.length) {b : Int} {v : List Nat} (he : l[k] = (b, v)) (last : Int) : goesUp last (l.drop k) = (decide (last < b) && (decide (b < 32) && goesUp b (l.drop (k + 1)))) := by
  rw [List.drop_eq_getElem_cons h, he, goesUp]

set_option maxHeartbeats 1000000 in
theorem written_any (l : List Wr) (n : Nat) (hn : l.length = n) (h8 : W8 l) (a : Option Addr) (cap : Nat) (w : World) (hrd : Rd w a (wrs l)) (hl : n ≤ 1000000) :
    Calls Try.prog 13 #[.slice a n cap] w fun e w' => e = .returned (.bool (writtenB l)) ∧ Grows w w' := by
  have Hrd := Lib.hid hrd
  have H8 := Lib.hid h8
  have HN := Lib.hid hn
  clear hrd h8 hn
  by_cases hgt : 8 < (n : Int)
  · have hw : writtenB l = false := by have := HN.out; simp [writtenB]; omega
    rw [hw]
    go_enter Try.func13, Try.ntmps13
    go_wp2_with fail
    go_ret
    exact ⟨rfl, Grows.refl _⟩
  · have hw : writtenB l = goesUp (-1) l := by have := HN.out; simp [writtenB]; omega
    rw [hw]
    go_enter Try.func13, Try.ntmps13
    go_wp2_with fail
    go_loopg [3, 11] n (fun gh t i wr => ∃ (k : Nat) (last : Int), k + gh = n ∧ t = .int .i64 last ∧ i = .int .i64 (k : Int) ∧ Grows w wr ∧ goesUp (-1) l = goesUp last (l.drop k))
    case atStart => exact ⟨0, -1, by omega, rfl, rfl, Grows.refl _, rfl⟩
    case round =>
      obtain ⟨k, last, hk, rfl, rfl, hg, hup⟩ := hrel
      have HUP := Lib.hid hup
      clear hup
      by_cases hlt : k < n
      · obtain ⟨g, off, b, x0, x1, x2, x3, x4, x5, x6, x7, rfl, hgw, hek, c0, c1, c2, c3, c4, c5, c6, c7, c8⟩ := cells9 H8.out (Hrd.out.grows hg) (k := k) (by rw [HN.out]; exact hlt)
        have HD := Lib.hid (drop_up (by rw [HN.out]; exact hlt) hek last)
        clear hek
        have hlt' : (k : Int) < (n : Int) := by omega
        have hk0 : (0 : Int) ≤ (k : Int) := by omega
        by_cases hb1 : b ≤ last
        · go_wp2_with fail
          go_ret
          refine ⟨?_, hg.alloc _⟩
          rw [HUP.out, HD.out]
          simp [show ¬ last < b by omega]
        · by_cases hb2 : 32 ≤ b
          · go_wp2_with fail
            go_ret
            refine ⟨?_, hg.alloc _⟩
            rw [HUP.out, HD.out]
            simp [show ¬ b < 32 by omega]
          · go_wp2_with fail
            go_roundg (gk - 1)
            case measure => omega
            case rel =>
              refine ⟨k + 1, b, by omega, rfl, by go_num, hg.alloc _, ?_⟩
              rw [HUP.out, HD.out]
              simp [show last < b by omega, show b < 32 by omega]
      · obtain rfl : k = n := by omega
        go_wp2_with fail
        go_ret
        refine ⟨?_, hg⟩
        rw [HUP.out, List.drop_of_length_le (by rw [HN.out]; exact Nat.le_refl _), goesUp]
        rfl

theorem drop_plc {l : List Wr} {k : Nat} (h : k < l.length) {b : Int} {v : List Nat} (he : l[k] = (b, v)) (key : Int) : plc (l.drop k) key = (if b < key then plc (l.drop (k + 1)) key + 1 else 0) ∧ phas (l.drop k) key = (if b < key then phas (l.drop (k + 1)) key else b == key) := by
  rw [List.drop_eq_getElem_cons h, he, plc, phas]
  exact ⟨rfl, rfl⟩
theorem ret_place {a b : Int} {c d : Bool} (h : a = b) (h2 : c = d) : Ending.returned (.tuple #[.int .i64 a, .bool c]) = .returned (.tuple #[.int .i64 b, .bool d]) := by rw [h, h2]

set_option maxHeartbeats 1000000 in
theorem place_any (l : List Wr) (n : Nat) (hn : l.length = n) (h8 : W8 l) (a : Option Addr) (cap : Nat) (key : Int) (w : World) (hrd : Rd w a (wrs l)) (hl : n ≤ 1000000) :
    Calls Try.prog 15 #[.slice a n cap, .int .i64 key, .func (.func 16) #[] #[]] w fun e w' => e = .returned (.tuple #[.int .i64 (plc l key), .bool (phas l key)]) ∧ Grows w w' := by
  have Hrd := Lib.hid hrd
  have H8 := Lib.hid h8
  have HN := Lib.hid hn
  clear hrd h8 hn
  go_enter Try.func15, Try.ntmps15
  go_wp2_with fail
  go_loopg [13] n (fun gh i wr => ∃ (k : Nat), k + gh = n ∧ i = .int .i64 (k : Int) ∧ Grows w wr ∧ plc l key = k + plc (l.drop k) key ∧ phas l key = phas (l.drop k) key)
  case atStart => exact ⟨0, by omega, rfl, Grows.refl _, by simp, rfl⟩
  case round =>
    obtain ⟨k, hk, rfl, hg, hp, hh⟩ := hrel
    have HP := Lib.hid hp
    have HH := Lib.hid hh
    clear hp hh
    by_cases hlt : k < n
    · obtain ⟨g, off, b, x0, x1, x2, x3, x4, x5, x6, x7, rfl, hgw, hek, c0, c1, c2, c3, c4, c5, c6, c7, c8⟩ := cells9 H8.out (Hrd.out.grows hg) (k := k) (by rw [HN.out]; exact hlt)
      have HD := Lib.hid (drop_plc (by rw [HN.out]; exact hlt) hek key)
      clear hek
      have hlt' : (k : Int) < (n : Int) := by omega
      have hk0 : (0 : Int) ≤ (k : Int) := by omega
      go_wp2_with fail
      refine (block_any b x0 x1 x2 x3 x4 x5 x6 x7 _).mono ?_
      rintro e w1 ⟨rfl, hb1⟩
      have G1 := (hg.alloc _).trans hb1
      by_cases hb : key ≤ b
      · go_wp2_with fail
        go_ret2
        refine ⟨?_, G1⟩
        have h1 := HP.out
        have h2 := HH.out
        rw [HD.out.1, if_neg (by omega)] at h1
        rw [HD.out.2, if_neg (by omega)] at h2
        exact ret_place (by rw [h1]; simp) h2.symm
      · go_wp2_with fail
        go_roundg (gk - 1)
        case measure => omega
        case rel =>
          refine ⟨k + 1, by omega, by go_num, G1, ?_, ?_⟩
          · rw [HP.out, HD.out.1, if_pos (by omega)]; omega
          · rw [HH.out, HD.out.2, if_pos (by omega)]
    · obtain rfl : k = n := by omega
      go_wp2_with fail
      go_ret2
      refine ⟨?_, hg⟩
      have h1 := HP.out
      have h2 := HH.out
      rw [List.drop_of_length_le (by rw [HN.out]; exact Nat.le_refl _)] at h1 h2
      exact ret_place (by rw [h1]; simp [plc]) (by rw [h2]; rfl)

end Go.Proofs.Ytpjcekhpkipddaa
