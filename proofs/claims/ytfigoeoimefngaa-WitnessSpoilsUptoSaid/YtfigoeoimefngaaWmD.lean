/-
  WitnessSerial: the walk.
-/
import Derived.Test.YtfigoeoimefngaaWmC
import Derived.Test.YtfigoeoimefngaaWkC
import Derived.Test.YtfigoeoimefngaaWjF
import Derived.Test.YtfigoeoimefngaaWiN
namespace Go.Proofs.Ytfigoeoimefngaa
open Go.RowKit Go.Maps Go.Shelf

theorem ser_wrong (L : List Sn) : serF L = decide ((wrongF L).length = 0) := by
  unfold serF wrongF
  rw [List.length_map]
  have key : ∀ l : List Ft, l.all okF = decide ((l.filter badF).length = 0) := by
    intro l
    induction l with
    | nil => rfl
    | cons f l ih =>
      rw [List.all_cons, ih, List.filter_cons]
      unfold okF badF
      by_cases h : f.want = f.got
      · simp [h]
      · simp [h]
  exact key _
theorem replay_told (L : List Sn) (n : Nat) (hn : L.length = n) (hL : n ≤ 1000) (a : Option Addr) (cap : Nat) (w : World) (hr : Rd w a (rowsOf Sn.cs L)) :
    Calls Try.prog 16 #[.slice a n cap] w fun e w' => Grows w w' ∧ ∃ (Y : List Int) (sb : Bool) (ec : Int), e = .returned (.tuple #[.agg (ivs Y).toArray, .bool sb, .int .i64 ec]) ∧ Y.length = 256 ∧ ((mayB L = true ∧ Y = blkF L ∧ sb = serF L ∧ ec = 0) ∨ (mayB L = false ∧ ec = 2)) := by
  refine (replay27_any L n hn hL a cap w hr).mono ?_
  rintro e w' ⟨hg, ⟨hm, rfl⟩ | ⟨hm, rfl⟩⟩
  · exact ⟨hg, zer256, false, 2, rfl, zer256_len, .inr ⟨hm, rfl⟩⟩
  · exact ⟨hg, blkF L, serF L, 0, rfl, blkF_len hm, .inl ⟨hm, rfl, rfl, rfl⟩⟩
theorem first_told (L : List Sn) (n : Nat) (hn : L.length = n) (hL : n ≤ 1000) (hok : ∀ x ∈ L, x.n.ok ∧ x.wk.ok) (a : Option Addr) (cap : Nat) (w : World) (hr : Rd w a (rowsOf Sn.cs L)) :
    Calls Try.prog 19 #[.slice a n cap] w fun e w' => Grows w w' ∧ ∃ (F : Ft) (fb : Bool), e = .returned (.tuple #[.agg F.cs.toArray, .bool fb]) ∧ F.ok ∧ ((mayB L = true ∧ F = frC (wrongF L) ∧ fb = decide (0 < (wrongF L).length)) ∨ (mayB L = false ∧ F = zF ∧ fb = false)) := by
  refine (first32_any L n hn hL hok a cap w hr).mono ?_
  rintro e w' ⟨hg, ⟨hm, rfl⟩ | ⟨hm, rfl⟩⟩
  · exact ⟨hg, zF, false, rfl, zF_ok, .inr ⟨hm, rfl, rfl⟩⟩
  · exact ⟨hg, frC (wrongF L), (frF (wrongF L)).isSome, rfl, frC_ok (wrongF_ok hm hok), .inl ⟨hm, rfl, frF_some _⟩⟩
theorem count_told (L : List Sn) (n : Nat) (hn : L.length = n) (hL : n ≤ 1000) (hok : ∀ x ∈ L, x.n.ok ∧ x.wk.ok) (a : Option Addr) (cap : Nat) (w : World) (hr : Rd w a (rowsOf Sn.cs L)) :
    Calls Try.prog 20 #[.slice a n cap] w fun e w' => Grows w w' ∧ ∃ (R N : Nat) (ks : List Int) (ec : Int), e = .returned (.tuple #[.int .i64 (R : Int), .int .i64 (N : Int), .agg (civ ks).toArray, .int .i64 ec]) ∧ ks.length = 5 ∧ ((mayB L = true ∧ R = (readsF L).length ∧ N = (wrongF L).length ∧ ks = kcs (wrongF L) ∧ ec = 0) ∨ (mayB L = false ∧ R = 0 ∧ N = 0 ∧ ks = [0, 0, 0, 0, 0] ∧ ec = 2)) := by
  refine (count32_any L n hn hL hok a cap w hr).mono ?_
  rintro e w' ⟨hg, ⟨hm, rfl⟩ | ⟨hm, rfl⟩⟩
  · exact ⟨hg, 0, 0, [0, 0, 0, 0, 0], 2, rfl, rfl, .inr ⟨hm, rfl, rfl, rfl, rfl⟩⟩
  · exact ⟨hg, _, _, kcs (wrongF L), 0, rfl, rfl, .inl ⟨hm, rfl, rfl, rfl, rfl⟩⟩
theorem civ_all (l : List Int) : (civ l).toArray.all (·.oneCell') = true := all_oneCell_toArray (fun v hv => one_ints .i64 _ v hv)
set_option maxRecDepth 100000 in
set_option maxHeartbeats 8000000 in
theorem serial32_walk (L : List Sn) (n : Nat) (hn : L.length = n) (hok : ∀ x ∈ L, x.n.ok ∧ x.wk.ok) (a : Option Addr) (cap : Nat) (w : World) (hr : Rd w a (rowsOf Sn.cs L)) :
    Calls Try.prog 7 #[.slice a n cap] w fun e w' => e = .returned (.bool true) ∧ Grows w w' := by
  obtain ⟨Z, hZ⟩ : ∃ Z, ivs zer256 = Z := ⟨_, rfl⟩
  have hz := zst32
  rw [hZ] at hz
  have HZL : Hid (Z.length = 256) := Lib.hid (by rw [← hZ, ivs_len]; exact zer256_len)
  clear hZ
  have hfz := fz_zero
  have HR := Lib.hid hr
  have HN := Lib.hid hn
  have HOK := Lib.hid hok
  clear hr hn hok
  by_cases h1 : n ≤ 300
  · have h1i : decide ((n : Int) > 300) = false := decide_eq_false (by omega)
    have H1 := Lib.hid h1
    clear h1
    go_enter Try.func7, Try.ntmps7
    go_wp2_with fail
    clear h1i
    refine (replay_told L n HN.out (by have := H1.out; omega) a cap _ HR.out).mono ?_
    rintro e w1 ⟨hg, Y, sb, ec, rfl, hy, hE1⟩
    have HG1 := Lib.hid hg
    have HE1 := Lib.hid hE1
    have HT1 : Hid ((w1.alloc (.cells Z.toArray 46)).there w1.heap.size 0 (ivs Y).toArray.size) := Lib.hid ((At.new w1 _ _).there 0 _ (by rw [List.size_toArray, List.size_toArray, HZL.out, ivs_len, hy]; exact Nat.le_refl _))
    have HI1 : Hid ((Try.prog.info? 46).map (·.size) = some (ivs Y).toArray.size) := Lib.hid (by rw [List.size_toArray, ivs_len, hy]; exact info_st32)
    clear hg hy hE1
    go_wp2_with (with_reducible refine wpList_store_mid (op := ⟨none, .store 46 (.tmp 3) (.tmp 21), _, _, _, none⟩) rfl 46 (.tmp 3) (.tmp 21) rfl w1.heap.size 0 (ivs Y).toArray ?a1 ?a2 HT1.out HI1.out (ivs_all Y) ?_)
    all_goals try rfl
    have hg2 : Grows w ((w1.alloc (.cells Z.toArray 46)).setCells w1.heap.size 0 (ivs Y)) := Grows.setCells HG1.out.size _ _ (HG1.out.alloc _)
    generalize (w1.alloc (.cells Z.toArray 46)).setCells w1.heap.size 0 (ivs Y) = w2 at *
    have HG2 := Lib.hid hg2
    clear hg2 HT1 HI1 HG1
    refine (wrong_told L n HN.out (by have := H1.out; omega) HOK.out a cap _ (HR.out.grows HG2.out)).mono ?_
    rintro e w3 ⟨hg, av, cv, fs, e2, rfl, _, htold⟩
    have HG3 := Lib.hid (HG2.out.trans hg)
    have HT := Lib.hid htold
    clear hg htold HG2
    go_wp2_with fail
    refine (first_told L n HN.out (by have := H1.out; omega) HOK.out a cap _ (HR.out.grows HG3.out)).mono ?_
    rintro e w4 ⟨hg, F, fb, rfl, hf, hE2⟩
    have HG4 := Lib.hid (HG3.out.trans hg)
    have HE2 := Lib.hid hE2
    have HT4 : Hid ((w4.alloc (.cells fz 34)).there w4.heap.size 0 F.cs.toArray.size) := Lib.hid ((At.new w4 _ _).there 0 _ (by rw [List.size_toArray, Ft.cs_len hf]; exact Nat.le_refl _))
    have HI4 : Hid ((Try.prog.info? 34).map (·.size) = some F.cs.toArray.size) := Lib.hid (by rw [List.size_toArray, Ft.cs_len hf]; exact info_fault)
    clear hg hf hE2 HG3
    go_wp2_with (with_reducible refine wpList_store_mid (op := ⟨none, .store 34 (.tmp 8) (.tmp 32), _, _, _, none⟩) rfl 34 (.tmp 8) (.tmp 32) rfl w4.heap.size 0 F.cs.toArray ?b1 ?b2 HT4.out HI4.out F.cs_one ?_)
    all_goals try rfl
    have hg5 : Grows w ((w4.alloc (.cells fz 34)).setCells w4.heap.size 0 F.cs) := Grows.setCells HG4.out.size _ _ (HG4.out.alloc _)
    generalize (w4.alloc (.cells fz 34)).setCells w4.heap.size 0 F.cs = w5 at *
    have HG5 := Lib.hid hg5
    clear hg5 HT4 HI4 HG4
    refine (count_told L n HN.out (by have := H1.out; omega) HOK.out a cap _ (HR.out.grows HG5.out)).mono ?_
    rintro e w6 ⟨hg, R, N, ks, e3, rfl, hk, hE3⟩
    have HG6 := Lib.hid (HG5.out.trans hg)
    have HT6 : Hid ((w6.alloc (.cells #[.int .i64 0, .int .i64 0, .int .i64 0, .int .i64 0, .int .i64 0] 54)).there w6.heap.size 0 (civ ks).toArray.size) := Lib.hid ((At.new w6 _ _).there 0 _ (by rw [List.size_toArray]; unfold civ; rw [List.length_map, hk]; exact Nat.le_refl _))
    have HI6 : Hid ((Try.prog.info? 54).map (·.size) = some (civ ks).toArray.size) := Lib.hid (by rw [List.size_toArray]; unfold civ; rw [List.length_map, hk]; exact info_k5)
    clear hg hk HG5
    have HG7 : Hid (Grows w ((w6.alloc (.cells #[.int .i64 0, .int .i64 0, .int .i64 0, .int .i64 0, .int .i64 0] 54)).setCells w6.heap.size 0 (civ ks))) := Lib.hid (Grows.setCells HG6.out.size _ _ (HG6.out.alloc _))
    obtain ⟨ln, hln⟩ : ∃ ln, fs.length = ln := ⟨_, rfl⟩
    have HVals : Hid (e2 = ec ∧ e3 = ec ∧ (ec = 0 → sb = decide (ln = 0) ∧ N = ln) ∧ fb = decide (0 < ln)) := Lib.hid (by
      rcases HT.out.is with ⟨h1, h2, h3⟩ | ⟨h1, h2, h3⟩
      · have hl : (wrongF L).length = ln := by rw [← hln, h2]
        rcases HE1.out with ⟨_, _, h5, h6⟩ | ⟨h4, _⟩
        · rcases HE2.out with ⟨_, _, h8⟩ | ⟨h4, _⟩
          · rcases hE3 with ⟨_, _, h9, _, h10⟩ | ⟨h4, _⟩
            · exact ⟨by rw [h3, h6], by rw [h10, h6], fun _ => ⟨by rw [h5, ser_wrong, hl], by rw [h9, hl]⟩, by rw [h8, hl]⟩
            · rw [h1] at h4; cases h4
          · rw [h1] at h4; cases h4
        · rw [h1] at h4; cases h4
      · have hl : ln = 0 := by rw [← hln, h2]; rfl
        rcases HE1.out with ⟨h4, _⟩ | ⟨_, h6⟩
        · rw [h1] at h4; cases h4
        · rcases HE2.out with ⟨h4, _⟩ | ⟨_, _, h8⟩
          · rw [h1] at h4; cases h4
          · rcases hE3 with ⟨h4, _⟩ | ⟨_, _, _, _, h10⟩
            · rw [h1] at h4; cases h4
            · exact ⟨by rw [h3, h6], by rw [h10, h6], fun h => (by rw [h6] at h; cases h), by rw [h8, hl]; rfl⟩)
    obtain ⟨rfl, rfl, h11, rfl⟩ := HVals.out
    rw [hln]
    clear hE3 HT HE1 HE2 HVals hln
    by_cases hl0 : ln = 0
    · subst hl0
      by_cases hec : e3 = 0
      · subst hec
        obtain ⟨rfl, rfl⟩ := h11 rfl
        clear h11
        go_wp2_with (with_reducible refine wpList_store_mid (op := ⟨none, .store 54 (.tmp 12) (.tmp 39), _, _, _, none⟩) rfl 54 (.tmp 12) (.tmp 39) rfl w6.heap.size 0 (civ ks).toArray ?c1 ?c2 HT6.out HI6.out (civ_all ks) ?_)
        all_goals try rfl
        refine (wakes_any _).mono ?_
        rintro e w9 ⟨rfl, hg9⟩
        have HG9 := Lib.hid (HG7.out.trans hg9)
        clear hg9
        go_wp2_with fail
        go_ret
        exact ⟨rfl, HG9.out⟩
      · have hn0 : (e3 != (0 : Int)) = true := by simp [hec]
        have hn1 : (e3 == (0 : Int)) = false := by simp [hec]
        clear h11 hec
        go_wp2_with (with_reducible refine wpList_store_mid (op := ⟨none, .store 54 (.tmp 12) (.tmp 39), _, _, _, none⟩) rfl 54 (.tmp 12) (.tmp 39) rfl w6.heap.size 0 (civ ks).toArray ?d1 ?d2 HT6.out HI6.out (civ_all ks) ?_)
        all_goals try rfl
        refine (wakes_any _).mono ?_
        rintro e w9 ⟨rfl, hg9⟩
        have HG9 := Lib.hid (HG7.out.trans hg9)
        clear hg9
        go_wp2_with fail
        go_ret
        exact ⟨rfl, HG9.out⟩
    · have hd : decide (0 < ln) = true := decide_eq_true (by omega)
      have hd2 : ((ln : Int) == 0) = false := by simp [hl0]
      have hd3 : (ln == 0) = false := by simp [hl0]
      rw [hd]
      by_cases hec : e3 = 0
      · subst hec
        obtain ⟨e1, rfl⟩ := h11 rfl
        rw [decide_eq_false hl0] at e1
        subst e1
        clear h11 hl0
        go_wp2_with (with_reducible refine wpList_store_mid (op := ⟨none, .store 54 (.tmp 12) (.tmp 39), _, _, _, none⟩) rfl 54 (.tmp 12) (.tmp 39) rfl w6.heap.size 0 (civ ks).toArray ?e1 ?e2 HT6.out HI6.out (civ_all ks) ?_)
        all_goals try rfl
        refine (wakes_any _).mono ?_
        rintro e w9 ⟨rfl, hg9⟩
        have HG9 := Lib.hid (HG7.out.trans hg9)
        clear hg9
        go_wp2_with fail
        go_ret
        exact ⟨rfl, HG9.out⟩
      · have hn0 : (e3 != (0 : Int)) = true := by simp [hec]
        have hn1 : (e3 == (0 : Int)) = false := by simp [hec]
        clear h11 hec hl0
        go_wp2_with (with_reducible refine wpList_store_mid (op := ⟨none, .store 54 (.tmp 12) (.tmp 39), _, _, _, none⟩) rfl 54 (.tmp 12) (.tmp 39) rfl w6.heap.size 0 (civ ks).toArray ?f1 ?f2 HT6.out HI6.out (civ_all ks) ?_)
        all_goals try rfl
        refine (wakes_any _).mono ?_
        rintro e w9 ⟨rfl, hg9⟩
        have HG9 := Lib.hid (HG7.out.trans hg9)
        clear hg9
        go_wp2_with fail
        go_ret
        exact ⟨rfl, HG9.out⟩
  · have h1i : decide ((n : Int) > 300) = true := decide_eq_true (by omega)
    clear h1
    go_enter Try.func7, Try.ntmps7
    go_wp2_with fail
    refine (wakes_any _).mono ?_
    rintro e w9 ⟨rfl, hg9⟩
    go_wp2_with fail
    go_ret
    exact ⟨rfl, hg9⟩
end Go.Proofs.Ytfigoeoimefngaa
