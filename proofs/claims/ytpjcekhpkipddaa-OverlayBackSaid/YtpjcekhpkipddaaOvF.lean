/-
  overlay.On.
-/
import Derived.Test.YtpjcekhpkipddaaOvD
import Derived.Test.YtpjcekhpkipddaaMid
namespace Go.Proofs.Ytpjcekhpkipddaa
open Go.RowKit

def onL (H : List Nat) : List Wr → List Nat
  | [] => H
  | x :: xs => onL (if isB x.1 then spl H (x.1.toNat * 8) x.2 else H) xs

def zs256 : List Value := bys (List.replicate 256 0)
theorem zero256 (W : World) : (zeroValue 36).run Try.prog W = .ok (.agg zs256.toArray) W := by kernel_rfl

set_option maxRecDepth 100000 in
set_option maxHeartbeats 1000000 in
theorem on_any (H : List Nat) (hH : H.length = 256) (l : List Wr) (n : Nat) (hn : l.length = n) (h8 : W8 l) (a : Option Addr) (cap : Nat) (w : World) (hrd : Rd w a (wrs l)) (hl : n ≤ 1000000) :
    Calls Try.prog 12 #[.agg (bys H).toArray, .slice a n cap] w fun e w' => e = .returned (.agg (bys (onL H l)).toArray) ∧ Grows w w' := by
  have Hrd := Lib.hid hrd
  have H8 := Lib.hid h8
  have HN := Lib.hid hn
  have HH := Lib.hid hH
  clear hrd h8 hn hH
  have hz := zero256
  go_enter Try.func12, Try.ntmps12
  generalize hB : bys H = B
  have HB := Lib.hid hB
  clear hB
  go_wp2_with fail
  clear hz
  go_loopg [9] n (fun gh i wr => ∃ (k : Nat) (H' : List Nat), k + gh = n ∧ i = .int .i64 (k : Int) ∧ Grows w wr ∧ At wr w.heap.size 36 (bys H').toArray ∧ At wr (w.heap.size + 1) 36 zs256.toArray ∧ H'.length = 256 ∧ onL H l = onL H' (l.drop k))
  case atStart => exact ⟨0, H, by omega, rfl, ((Grows.refl _).alloc _).alloc _, by rw [HB.out]; exact (At.new w _ _).alloc _, by have := At.new (w.alloc (Obj.cells B.toArray 36)) 36 zs256.toArray; simpa using this, HH.out, rfl⟩
  case round =>
    obtain ⟨k, H', hk, rfl, hg, hat, haz, hl', hon⟩ := hrel
    have HON := Lib.hid hon
    have HA := Lib.hid hat
    have HZ := Lib.hid haz
    have HL := Lib.hid hl'
    clear hon hat haz hl'
    by_cases hlt : k < n
    · obtain ⟨g, off, b, x0, x1, x2, x3, x4, x5, x6, x7, rfl, hgw, hek, c0, c1, c2, c3, c4, c5, c6, c7, c8⟩ := cells9 H8.out (Hrd.out.grows hg) (k := k) (by rw [HN.out]; exact hlt)
      have HD := Lib.hid hek
      clear hek
      have hlt' : (k : Int) < (n : Int) := by omega
      have hk0 : (0 : Int) ≤ (k : Int) := by omega
      cases hi : isB b
      · go_wp2_with fail
        refine (is_any _ _).mono ?_
        rintro e w2 ⟨rfl, rfl⟩
        rw [hi]
        go_wp2_with fail
        go_roundg (gk - 1)
        case measure => omega
        case rel =>
          refine ⟨k + 1, H', by omega, by go_num, hg.alloc _, HA.out.alloc _, HZ.out.alloc _, HL.out, ?_⟩
          rw [HON.out, List.drop_eq_getElem_cons (by rw [HN.out]; exact hlt), HD.out, onL]
          simp [hi]
      · go_wp2_with fail
        refine (is_any _ _).mono ?_
        rintro e w2 ⟨rfl, rfl⟩
        rw [hi]
        have hbd : 0 ≤ b ∧ b < 32 := by simpa [isB] using hi
        have hb0 := hbd.1
        have hb1 := hbd.2
        have HT := Lib.hid ((HA.out.alloc (.cells #[.int .i64 b, .int .u8 x0, .int .u8 x1, .int .u8 x2, .int .u8 x3, .int .u8 x4, .int .u8 x5, .int .u8 x6, .int .u8 x7] 26)).there (b.toNat * 8) 8 (by simp [bys_length]; have := HL.out; omega))
        go_wp2_with (with_reducible refine wpList_store_mid (op := ⟨none, .store 24 (.tmp 20) (.tmp 19), _, _, _, none⟩) rfl 24 (.tmp 20) (.tmp 19) rfl w.heap.size (b.toNat * 8) #[.int .u8 x0, .int .u8 x1, .int .u8 x2, .int .u8 x3, .int .u8 x4, .int .u8 x5, .int .u8 x6, .int .u8 x7] ?e1 ?e2 ?e3 ?e4 ?e5 ?_)
        case e1 => rfl
        case e2 => rfl
        case e3 => exact HT.out
        case e4 => kernel_rfl
        case e5 => exact all_oneCell_toArray (bys_one [x0, x1, x2, x3, x4, x5, x6, x7])
        go_roundg (gk - 1)
        case measure => omega
        case rel =>
          refine ⟨k + 1, spl H' (b.toNat * 8) [x0, x1, x2, x3, x4, x5, x6, x7], by omega, by go_num, Grows.setCells (Nat.le_refl _) _ _ (hg.alloc _), ?_, ?_, ?_, ?_⟩
          · rw [bys_spl]
            exact At.setCells _ _ (HA.out.alloc _) (by simp [bys_length]; have := HL.out; omega)
          · exact At.setCells_far HZ.out (by omega) _ _ (HZ.out.alloc _)
          · rw [spl_length _ _ _ (by simp; have := HL.out; omega), HL.out]
          · rw [HON.out, List.drop_eq_getElem_cons (by rw [HN.out]; exact hlt), HD.out, onL]
            simp [hi]
    · obtain rfl : k = n := by omega
      have HO : Hid (onL H l = H') := by
        show _ = _
        rw [HON.out, List.drop_of_length_le (by rw [HN.out]; exact Nat.le_refl _), onL]
      have hlt' : ¬ (k : Int) < (k : Int) := by omega
      have HT := Lib.hid (HZ.out.there 0 256 (by simp [zs256, bys_length]))
      have HU := Lib.hid ((by have := bys_length H'; rw [HL.out] at this; simpa using this : (bys H').toArray.size = 256))
      go_wp2_with (first | (refine wpList_load_row rfl 36 (.tmp 2) rfl w.heap.size rfl 36 (bys H').toArray (0, 0) _ HA.out Try.underlying36 rfl (by rw [HU.out]; kernel_rfl) ?_) | (refine wpList_store_mid rfl 36 (.tmp 4) (.tmp 22) rfl (w.heap.size + 1) 0 (bys H').toArray rfl rfl (by rw [HU.out]; exact HT.out) (by rw [HU.out]; kernel_rfl) (all_oneCell_toArray (bys_one H')) ?_))
      have hA2 : At (wr.setCells (w.heap.size + 1) 0 (bys H')) (w.heap.size + 1) 36 (bys H').toArray := by
        have h1 := At.setCells (bys H') 0 HZ.out (by simp [zs256, bys_length]; rw [HL.out]; exact Nat.le_refl _)
        have h2 : spl zs256 0 (bys H') = bys H' := by
          simp [spl]
          rw [bys_length, HL.out]
          exact Nat.le_refl _
        rwa [h2] at h1
      refine bodyPost_ret (results_cell_row Try.results12 _ _ (w.heap.size + 1) 36 (bys H').toArray (0, 0) _ rfl hA2 Try.underlying36 rfl (by rw [HU.out]; kernel_rfl)) rfl ⟨by rw [HO.out], ?_⟩
      exact Grows.setCells (by omega) _ _ hg
end Go.Proofs.Ytpjcekhpkipddaa
