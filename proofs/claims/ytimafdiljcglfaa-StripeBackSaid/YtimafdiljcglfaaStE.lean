/-
  stripe.Bytes, Read: of a map that may be.
-/
import Derived.Test.YtimafdiljcglfaaStD
import Derived.Test.YtimafdiljcglfaaPackA
namespace Go.Proofs.Ytimafdiljcglfaa
open Go.RowKit

/-- The bytes of a map. -/
def mapB (n : Nat) (M : List Int) : List Nat := digits n 6 ++ M.map Int.toNat
theorem mapB_length (n : Nat) (M : List Int) (h : M.length = 8) : (mapB n M).length = 14 := by simp [mapB, digits_length, h]
theorem fits6 (n : Nat) (h : n ≤ 1099511627776) : fitsB (n : Int) 6 = true := by
  rw [fitsB_iff]
  refine ⟨by omega, by omega, by omega, ?_⟩
  have : (2 : Int) ^ (8 * (6 : Int).toNat) = 281474976710656 := by decide
  omega
theorem take_map_succ (M : List Int) (k : Nat) (h : k < M.length) : (M.map Int.toNat).take (k + 1) = (M.map Int.toNat).take k ++ [(M.getD k 0).toNat] := by
  rw [List.take_succ_eq_append_getElem (by simpa using h)]
  simp [List.getElem?_eq_getElem h]

set_option maxHeartbeats 1000000 in
theorem Bytes_ok (n : Nat) (o0 o1 o2 o3 o4 o5 o6 o7 : Int) (M : List Int) (hM : [o0, o1, o2, o3, o4, o5, o6, o7] = M) (hok : okM (n : Int) M = true) (w : World) :
    Calls Try.prog 10 #[mpv (n : Int) o0 o1 o2 o3 o4 o5 o6 o7] w fun e w' => ∃ u, e = .returned (.tuple #[u, .int .i64 0]) ∧ NewBy w (mapB n M) u w' := by
  have hb := okM_bd hok
  have h8 : M.length = 8 := by rw [← hM]; rfl
  have hK : ∀ W, Calls Try.prog 8 #[mpv (n : Int) o0 o1 o2 o3 o4 o5 o6 o7] W fun e w' => e = .returned (.int .i64 0) ∧ Grows W w' := fun W => by
    have := check_any n o0 o1 o2 o3 o4 o5 o6 o7 W
    rw [hM, show checkE n M = 0 by simp [checkE, hok]] at this
    exact this
  have hP : ∀ W, Calls Try.prog 17 #[.slice none 0 0, .int .i64 (n : Int), .int .i64 6] W fun e w' => ∃ v, e = .returned (.tuple #[v, .int .i64 0]) ∧ NewBy W (digits n 6) v w' := fun W => put_yes [] 0 rfl n 6 none 0 W (Rd.nil _ _) (fits6 n (by omega)) (by omega)
  have hix : ∀ (k : Nat) (W : World), k < 8 → (Instr.index 22 (.agg #[.int .i64 o0, .int .i64 o1, .int .i64 o2, .int .i64 o3, .int .i64 o4, .int .i64 o5, .int .i64 o6, .int .i64 o7]) (.int .i64 (k : Int))).run Try.prog W = .ok (.int .i64 (M.getD k 0)) W := fun k W hk => by rw [← hM]; exact idx8 o0 o1 o2 o3 o4 o5 o6 o7 k hk W
  have HK := Lib.hid hK
  have HP := Lib.hid hP
  have HX := Lib.hid hix
  have H8 := Lib.hid h8
  have HB := Lib.hid hb.2.2
  clear hM hix h8 hK hP hok hb
  obtain ⟨i0, hi0, hz0, hz1, hz2⟩ := info_parts info_u8
  unfold mpv at *
  go_enter Try.func10, Try.ntmps10
  go_wp2_with fail
  refine (HK.out _).mono ?_
  rintro e w1 ⟨rfl, hb1⟩
  have A1 := (At.new w 24 #[.int .i64 (n : Int), .int .i64 o0, .int .i64 o1, .int .i64 o2, .int .i64 o3, .int .i64 o4, .int .i64 o5, .int .i64 o6, .int .i64 o7]).grows hb1
  have G1 := ((Grows.refl w).alloc (.cells #[.int .i64 (n : Int), .int .i64 o0, .int .i64 o1, .int .i64 o2, .int .i64 o3, .int .i64 o4, .int .i64 o5, .int .i64 o6, .int .i64 o7] 24)).trans hb1
  have cm := A1.cell
  go_wp2_with fail
  refine (HP.out _).mono ?_
  rintro e w2 ⟨v2, rfl, a2, c2, rfl, hown2, hb2⟩
  have hl6 : (digits n 6).length = 6 := digits_length n 6
  rw [hl6] at hown2
  rw [hl6]
  have A2 := A1.grows hb2
  have G2 := G1.trans hb2
  have OW2 := Lib.hid (own_lower hown2 G1.size)
  clear cm hl6 hown2
  have cm := A2.cell
  go_wp2_with fail
  clear cm
  go_loopg [5, 24] 8 (fun gh t i wr => ∃ (k : Nat), k + gh = 8 ∧ i = .int .i64 (k : Int) ∧ wr.ownsRow w.heap.size 5 1 t (6 + k) (bys (digits n 6 ++ (M.map Int.toNat).take k)) ∧ Grows w wr)
  case atStart => exact ⟨0, by omega, rfl, by simpa using OW2.out, G2⟩
  case round =>
    obtain ⟨k, hk, rfl, hown, hg⟩ := hrel
    have HOW := Lib.hid hown
    clear hown
    by_cases hlt : k < 8
    · have hix := fun W => HX.out k W hlt
      have HT := Lib.hid (take_map_succ M k (by rw [H8.out]; exact hlt))
      have hs := HB.out (M.getD k 0) (by rw [List.getD_eq_getElem?_getD, List.getElem?_eq_getElem (show k < M.length by rw [H8.out]; exact hlt)]; exact List.getElem_mem _)
      generalize M.getD k 0 = s at *
      obtain ⟨x, rfl⟩ : ∃ x : Nat, s = (x : Int) := ⟨s.toNat, by omega⟩
      have hx : x ≤ 4 := by omega
      have hlt' : (k : Int) < 8 := by omega
      have hm : ((x : Int) % 256) = (x : Int) := by omega
      clear hs
      go_wp2_with (at_builtin; refine wpList_append_rd _ rfl (.tmp 27) (.tmp 30) 40 rfl w.heap.size 5 i0 _ 1 1 Try.underlying40 hi0 hz0 hz1 hz2 rfl (by decide) u5 (6 + k) _ rfl (own_grows HOW.out ((Grows.refl _).alloc _)) _ 1 _ (bys [x]) rfl ?q0 ?q1 (bys_one _) ?q3 ?q4 ?q5 ?_)
      case q0 => exact rd_new wr _ _ (0, 0)
      case q1 => rfl
      case q3 => unfold maxLen; omega
      case q4 => omega
      case q5 => exact (hg.alloc _).size
      intro v7 w7 hown7 hgr7 _
      have G7 : Grows w w7 := (hg.alloc _).grown hgr7 (by intro k hk; exact (HOW.out.lt k hk).1)
      have HO7 := Lib.hid hown7
      clear hown7 hgr7
      go_wp2_with fail
      go_roundg (gk - 1)
      case measure => omega
      case rel => exact ⟨k + 1, by omega, by go_num, by rw [HT.out, ← List.append_assoc, bys_append]; exact HO7.out, G7⟩
    · obtain rfl : k = 8 := by omega
      have hO := HOW.out
      rw [List.take_of_length_le (by simp [H8.out])] at hO
      obtain ⟨aa, ca, rfl, _⟩ := own_slice hO
      go_wp2_with fail
      go_ret2
      exact ⟨_, rfl, aa, ca, by rw [mapB_length _ _ H8.out]; rfl, by rw [mapB_length _ _ H8.out]; exact hO, hg⟩

theorem num_mapB (n : Nat) (M : List Int) (h : n ≤ 1099511627776) : num (((mapB n M).drop 0).take 6) = n := by
  rw [List.drop_zero, mapB, List.take_append_of_le_length (by rw [digits_length]; exact Nat.le_refl _), List.take_of_length_le (by rw [digits_length]; exact Nat.le_refl _), num_digits]
  exact Nat.mod_eq_of_lt (by omega)
theorem mapB_at (n : Nat) (M : List Int) (k : Nat) (h : k < M.length) : (mapB n M)[6 + k]? = some (M.getD k 0).toNat := by
  rw [mapB, List.getElem?_append_right (by rw [digits_length]; omega), digits_length]
  simp [List.getElem?_eq_getElem h]
/-- A map's entries of which the first k are read. -/
def fillM (M : List Int) (k : Nat) : List Int := M.take k ++ List.replicate (8 - k) 0
theorem fillM_len (M : List Int) (k : Nat) (h8 : M.length = 8) (hk : k ≤ 8) : (fillM M k).length = 8 := by simp [fillM, h8]; omega
theorem fillM_succ (M : List Int) (k : Nat) (h8 : M.length = 8) (hk : k < 8) : (fillM M k).set k (M.getD k 0) = fillM M (k + 1) := by
  apply List.ext_getElem?
  intro j
  rw [List.getElem?_set, fillM_len M k h8 (by omega)]
  unfold fillM
  rw [List.getElem?_append, List.getElem?_append, List.length_take, List.length_take, h8, show min k 8 = k by omega, show min (k + 1) 8 = k + 1 by omega]
  by_cases h1 : k = j
  · subst h1
    simp [hk, List.getElem?_eq_getElem (show k < M.length by omega)]
  · rw [if_neg h1]
    by_cases h2 : j < k
    · rw [if_pos h2, if_pos (by omega), List.getElem?_take_of_lt h2, List.getElem?_take_of_lt (by omega)]
    · rw [if_neg h2, if_neg (by omega), List.getElem?_replicate, List.getElem?_replicate]
      by_cases h3 : j < 8
      · rw [if_pos (by omega), if_pos (by omega)]
      · rw [if_neg (by omega), if_neg (by omega)]
theorem fillM_all (M : List Int) (h8 : M.length = 8) : fillM M 8 = M := by simp [fillM, h8, List.take_of_length_le]
theorem ints_set (l : List Int) (v : Int) (k : Nat) (x : Int) : (ints (v :: l)).toArray.setIfInBounds (1 + k) (.int .i64 x) = (ints (v :: l.set k x)).toArray := by
  rw [Nat.add_comm]
  simp [ints, List.map_set]

set_option maxHeartbeats 1000000 in
theorem Read_ok (n : Nat) (o0 o1 o2 o3 o4 o5 o6 o7 : Int) (M : List Int) (hM : [o0, o1, o2, o3, o4, o5, o6, o7] = M) (hok : okM (n : Int) M = true) (a : Option Addr) (cap : Nat) (w : World) (hrd : Rd w a (bys (mapB n M))) :
    Calls Try.prog 11 #[.slice a 14 cap] w fun e w' => e = .returned (.tuple #[mpv (n : Int) o0 o1 o2 o3 o4 o5 o6 o7, .int .i64 0]) ∧ Grows w w' := by
  have hb := okM_bd hok
  have hn : n ≤ 1099511627776 := by omega
  have h8 : M.length = 8 := by rw [← hM]; rfl
  have h256 : ∀ x ∈ mapB n M, x < 256 := by
    intro x hx
    rcases List.mem_append.1 hx with h | h
    · exact digits_lt _ _ x h
    · obtain ⟨s, h1, rfl⟩ := List.mem_map.1 h
      have := hb.2.2 s h1
      omega
  have hK : ∀ W, Calls Try.prog 8 #[.agg #[.int .i64 (n : Int), .int .i64 o0, .int .i64 o1, .int .i64 o2, .int .i64 o3, .int .i64 o4, .int .i64 o5, .int .i64 o6, .int .i64 o7]] W fun e w' => e = .returned (.int .i64 0) ∧ Grows W w' := fun W => by
    have := check_any n o0 o1 o2 o3 o4 o5 o6 o7 W
    rw [hM, show checkE n M = 0 by simp [checkE, hok]] at this
    exact this
  have hG : ∀ W, Rd W a (bys (mapB n M)) → Calls Try.prog 18 #[.slice a 14 cap, .int .i64 0, .int .i64 6] W fun e w' => e = .returned (.tuple #[.int .i64 (n : Int), .int .i64 0]) ∧ W = w' := fun W hW => by
    have := get_num (mapB n M) 14 (mapB_length n M h8) a cap 0 6 W h256 hW (by omega) (by omega) (by omega) (by omega)
    rw [num_mapB n M hn] at this
    exact this
  obtain ⟨b, off, rfl, hbw, hc⟩ := hrd.at (by rw [bys_length, mapB_length n M h8]; omega)
  have hcell : ∀ k, k < 8 → w.cell? ⟨b, off + (6 + k), none⟩ = some (.int .u8 (((M.getD k 0).toNat : Nat) : Int)) := fun k hk => by
    rw [hc (6 + k) (by rw [bys_length, mapB_length n M h8]; omega), bys_at _ _ (by rw [mapB_length n M h8]; omega)]
    have := mapB_at n M k (by omega)
    rw [List.getElem?_eq_getElem (by rw [mapB_length n M h8]; omega)] at this
    injection this with this
    rw [this]
  have HK := Lib.hid hK
  have HG := Lib.hid hG
  have HC := Lib.hid hcell
  have H8 := Lib.hid h8
  have HB := Lib.hid hb.2.2
  have Hrd := Lib.hid hrd
  have HM := Lib.hid hM
  clear hM hcell hc h8 hK hG hok hb hrd h256
  have hz := zmap
  unfold mpv at *
  go_enter Try.func11, Try.ntmps11
  go_wp2_with fail
  refine (HG.out _ (Hrd.out.grows ((Grows.refl _).alloc _))).mono ?_
  rintro e w1 ⟨rfl, rfl⟩
  go_wp2_with fail
  have B0 := ((At.new w 24 #[.int .i64 0, .int .i64 0, .int .i64 0, .int .i64 0, .int .i64 0, .int .i64 0, .int .i64 0, .int .i64 0, .int .i64 0]).alloc (.cells #[.int .i64 (n : Int), .int .i64 0, .int .i64 0, .int .i64 0, .int .i64 0, .int .i64 0, .int .i64 0, .int .i64 0, .int .i64 0] 24))
  have A0 := At.new (w.alloc (.cells #[.int .i64 0, .int .i64 0, .int .i64 0, .int .i64 0, .int .i64 0, .int .i64 0, .int .i64 0, .int .i64 0, .int .i64 0] 24)) 24 #[.int .i64 (n : Int), .int .i64 0, .int .i64 0, .int .i64 0, .int .i64 0, .int .i64 0, .int .i64 0, .int .i64 0, .int .i64 0]
  simp only [World.size_alloc] at A0
  have G0 := (((Grows.refl w).alloc (.cells #[.int .i64 0, .int .i64 0, .int .i64 0, .int .i64 0, .int .i64 0, .int .i64 0, .int .i64 0, .int .i64 0, .int .i64 0] 24)).alloc (.cells #[.int .i64 (n : Int), .int .i64 0, .int .i64 0, .int .i64 0, .int .i64 0, .int .i64 0, .int .i64 0, .int .i64 0, .int .i64 0] 24))
  go_loopg [23] 8 (fun gh i wr => ∃ (k : Nat), k + gh = 8 ∧ i = .int .i64 (k : Int) ∧ At wr w.heap.size 24 #[.int .i64 0, .int .i64 0, .int .i64 0, .int .i64 0, .int .i64 0, .int .i64 0, .int .i64 0, .int .i64 0, .int .i64 0] ∧ At wr (w.heap.size + 1) 24 (ints ((n : Int) :: fillM M k)).toArray ∧ Grows w wr)
  case atStart => exact ⟨0, by omega, rfl, B0, A0, G0⟩
  case round =>
    obtain ⟨k, hk, rfl, hB, hA, hg⟩ := hrel
    have HB1 := Lib.hid hB
    have HA1 := Lib.hid hA
    clear hB hA
    by_cases hlt : k < 8
    · have hc1 := (hg.cell b (off + (6 + k)) hbw).trans (HC.out k hlt)
      have hs := HB.out (M.getD k 0) (by rw [List.getD_eq_getElem?_getD, List.getElem?_eq_getElem (show k < M.length by rw [H8.out]; exact hlt)]; exact List.getElem_mem _)
      have HF := Lib.hid (fillM_succ M k H8.out hlt)
      generalize M.getD k 0 = s at *
      obtain ⟨x, rfl⟩ : ∃ x : Nat, s = (x : Int) := ⟨s.toNat, by omega⟩
      have hx : x ≤ 4 := by omega
      rw [Int.toNat_natCast] at hc1
      have hlt' : (k : Int) < 8 := by omega
      have hk0 : (0 : Int) ≤ (k : Int) := by omega
      have hk6 : (6 : Int) + (k : Int) < 14 := by omega
      have hk7 : (0 : Int) ≤ 6 + (k : Int) := by omega
      have hk8 : ((6 : Int) + (k : Int)).toNat = 6 + k := by omega
      have hm : ((x : Int) % 256) = (x : Int) := by omega
      have hc2 : wr.cell? ⟨w.heap.size + 1, 1 + k, none⟩ = some (.int .i64 ((fillM M k).getD k 0)) := by
        rw [HA1.out.cell, Nat.add_comm]
        simp [ints, List.getElem?_eq_getElem (show k < (fillM M k).length by rw [fillM_len M k H8.out (by omega)]; exact hlt)]
      have hf2 := HA1.out.frozen (1 + k)
      clear hs
      go_wp2_with fail
      go_roundg (gk - 1)
      case measure => omega
      case rel => exact ⟨k + 1, by omega, by go_num, HB1.out.far (by simp) _, by have := HA1.out.set (1 + k) (.int .i64 (x : Int)); rw [ints_set, HF.out] at this; exact this, hg.setCell (by simp) _⟩
    · obtain rfl : k = 8 := by omega
      have hA := HA1.out
      rw [fillM_all M H8.out, ← HM.out] at hA
      have cm := hA.cell
      have HA2 := Lib.hid hA
      simp only [ints, List.map_cons, List.map_nil] at cm
      clear hA
      go_wp2_with fail
      refine (HK.out _).mono ?_
      rintro e w2 ⟨rfl, hb2⟩
      clear cm
      have hA := HA2.out.grows hb2
      have B2 := HB1.out.grows hb2
      have cm := hA.cell
      simp only [ints, List.map_cons, List.map_nil] at cm
      go_wp2_with (with_reducible refine wpList_store_mid (op := ⟨none, .store 24 (.tmp 2) (.tmp 42), _, _, _, none⟩) rfl 24 (.tmp 2) (.tmp 42) rfl (w.heap.size) (0) #[.int .i64 (n : Int), .int .i64 o0, .int .i64 o1, .int .i64 o2, .int .i64 o3, .int .i64 o4, .int .i64 o5, .int .i64 o6, .int .i64 o7] ?s1a ?s1b ?s1c ?s1d ?s1e ?_)
      case s1a => rfl
      case s1b => rfl
      case s1c => exact B2.there 0 9 (by simp)
      case s1d => kernel_rfl
      case s1e => exact one9 _ _ _ _ _ _ _ _ _
      refine bodyPost_ret (results_row_tmp Try.results11 _ _ w.heap.size 24 _ _ rfl (At.all (vs := ints [(n : Int), o0, o1, o2, o3, o4, o5, o6, o7]) (cs := ints [0, 0, 0, 0, 0, 0, 0, 0, 0]) B2 rfl) Try.underlying24 rfl (by kernel_rfl)) rfl ⟨rfl, Grows.setCells (by omega) _ _ (hg.trans hb2)⟩

end Go.Proofs.Ytimafdiljcglfaa
