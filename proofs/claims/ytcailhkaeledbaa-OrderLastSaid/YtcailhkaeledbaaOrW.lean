/-
  The law OrderLast: its walk.
-/
import Derived.Test.YtcailhkaeledbaaOrV
namespace Go.Proofs.Ytcailhkaeledbaa
open Go.RowKit Go.Maps

theorem all_one (Z : List Int) : ((ivs Z).toArray.all fun x => x.oneCell') = true := by simp [ivs, Value.oneCell']
set_option maxRecDepth 100000 in
set_option maxHeartbeats 4000000 in
theorem replay_no (L : List Sn) (n : Nat) (hn : L.length = n) (hL : n ≤ 200) (hok : ∀ x ∈ L, x.n.ok) (a : Option Addr) (cap : Nat) (w : World) (hr : Rd w a (rowsOf Sn.cs L)) (hm : mayB L = false) :
    Calls Try.prog 13 #[.slice a n cap] w fun e w' => e = .returned (.tuple #[.agg (ivs zer256).toArray, .bool false, .int .i64 2]) ∧ Grows w w' := by
  have hz := zstate
  have HS0 := Lib.hid (At.new w 41 (ivs zer256).toArray)
  have HG0 := Lib.hid ((Grows.refl w).alloc (.cells (ivs zer256).toArray 41))
  have HT := Lib.hid (fun W (hg : Grows w W) => tracks_any L n hn (by omega) hok a cap W (hr.grows hg))
  have HM := Lib.hid hm
  clear hr hn hm hok
  go_enter Try.func13, Try.ntmps13
  go_wp2_with fail
  clear hz
  have hgS : w.heap.size ≤ w.heap.size := Nat.le_refl _
  generalize hw0 : w.alloc (.cells (ivs zer256).toArray 41) = w0 at *
  refine (HT.out _ HG0.out).mono ?_
  rintro e w1 ⟨hg, ⟨_, rfl⟩ | ⟨h, _⟩⟩
  · have HG1 := Lib.hid (HG0.out.trans hg)
    have HS1 := Lib.hid (HS0.out.grows hg)
    obtain ⟨Z, hZ⟩ : ∃ Z, zer256 = Z := ⟨_, rfl⟩
    have HSZ : Hid (Z.length = 256) := Lib.hid (by rw [← hZ]; exact zer256_len)
    rw [hZ] at HS1
    have HZ := Lib.hid hZ
    clear hg HT HG0 HS0 hw0 hZ hgS
    go_wp2_with (first | (with_reducible refine wpList_load_row (o := ⟨some 20, .load 41 (.tmp 2), _, _, _, none⟩) rfl 41 (.tmp 2) rfl w.heap.size ?a1 41 (ivs Z).toArray (0, 0) (.array 32 35) ?a2 ?a3 rfl ?a5 ?_) | (with_reducible refine wpList_store_mid (op := ⟨none, .store 41 (.tmp 2) (.tmp 20), _, _, _, none⟩) rfl 41 (.tmp 2) (.tmp 20) rfl w.heap.size 0 (ivs Z).toArray ?b1 ?b2 ?b3 ?b4 ?b5 ?_))
    case a1 => rfl
    case a2 => exact HS1.out
    case a3 => exact Try.underlying41
    case a5 => rw [show (ivs Z).toArray.size = 256 by simp [ivs_len, HSZ.out]]; exact info_state
    case b3 => exact HS1.out.there 0 _ (by simp)
    case b4 => rw [show (ivs Z).toArray.size = 256 by simp [ivs_len, HSZ.out]]; exact info_state
    case b5 => exact all_one Z
    go_wp2_with fail
    have HAF := At.all (vs := ivs Z) (cs := ivs Z) HS1.out rfl
    refine bodyPost_ret (results_row_tmp2 Try.results13 _ _ w.heap.size 41 (ivs Z).toArray _ rfl HAF Try.underlying41 rfl (by rw [show (ivs Z).toArray.size = 256 by simp [ivs_len, HSZ.out]]; exact info_state)) rfl ⟨by rw [HZ.out]; rfl, Grows.setCells (Nat.le_refl _) _ _ HG1.out⟩
  · rw [HM.out] at h; cases h
end Go.Proofs.Ytcailhkaeledbaa
