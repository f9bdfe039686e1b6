/-
  The walks of the document's own answer for sums (package cashboxref01).
-/
import Derived.Test.YtgmpeljnekpefaaOpenW
namespace Go.Proofs.Ytgmpeljnekpefaa
open Go.RowKit

set_option maxHeartbeats 400000 in
theorem remainder_any (r b : Nat) (hr : r < 4294967296) (hb : b < 256) (w : World) : Calls Try.prog 17 #[.int .u32 r, .int .u8 b] w fun e w' => e = .returned (.int .u32 (Crc.byt r b : Nat)) ∧ w = w' := by
  have hx : bits .xor .u32 (r : Int) (b : Int) = ((r ^^^ b : Nat) : Int) := u32_xor_nat r b hr (by omega)
  have hxl := Crc.lt_xor hr (by omega : b < 4294967296)
  have HB := Lib.hid (Crc.byt_st r b)
  generalize r ^^^ b = X at *
  go_enter Try.func17, Try.ntmps17
  go_wp2_with fail
  clear hx
  go_loopg [0, 5] 8 (fun g t i wr => ∃ k : Nat, k + g = 8 ∧ i = .int .i64 k ∧ w = wr ∧ t = .int .u32 (Crc.st k X : Nat))
  case atStart => exact ⟨0, rfl, rfl, rfl, rfl⟩
  case round =>
    obtain ⟨k, hk, rfl, rfl, rfl⟩ := hrel
    have hst : Crc.st k X < 4294967296 := Crc.lt_st k hxl
    have HK := Lib.hid (Crc.st_succ k X)
    by_cases hk8 : k < 8
    · have hk' : (k : Int) < 8 := by omega
      have hk0 : (0 : Int) ≤ (k : Int) := by omega
      generalize Crc.st k X = R at *
      have ha := and_one R hst
      by_cases h : R % 2 = 1
      · have ht : (((R % 2 : Nat) : Int) == 1) = true := by simp; omega
        have HS : Hid ((Crc.stp R : Int) = bits .xor .u32 ((R / 2 : Nat) : Int) 3988292384) := by
          have := u32_xor_nat (R / 2) 3988292384 (by omega) (by omega)
          unfold Crc.stp
          rw [if_pos h]
          exact this.symm
        clear h
        go_wp2_with fail
        go_roundg (gk - 1)
        case measure => omega
        case rel => exact ⟨k + 1, by omega, by go_num, rfl, by rw [HK.out, HS.out]; rfl⟩
      · have ht : (((R % 2 : Nat) : Int) == 1) = false := by simp; omega
        have HS : Hid ((Crc.stp R : Int) = ((R / 2 : Nat) : Int)) := by
          unfold Crc.stp
          rw [if_neg h]; rfl
        clear h
        go_wp2_with fail
        go_roundg (gk - 1)
        case measure => omega
        case rel => exact ⟨k + 1, by omega, by go_num, rfl, by rw [HK.out, HS.out]; rfl⟩
    · obtain rfl : k = 8 := by omega
      go_wp2_with fail
      go_ret
      exact ⟨ret_int (by rw [HB.out]), rfl⟩

set_option maxHeartbeats 400000 in
theorem refJoin_any (s : Nat) (l : List Nat) (n : Nat) (hn : l.length = n) (a : Option Addr) (cap : Nat) (w : World) (hs : s < 4294967296) (hb : ∀ x ∈ l, x < 256) (hrd : Rd w a (bys l)) (hl : n ≤ 9223372036854775807) :
    Calls Try.prog 14 #[.int .u32 s, .slice a n cap] w fun e w' => e = .returned (.int .u32 (Crc.join s l : Nat)) ∧ w = w' := by
  subst hn
  have Hrd := Lib.hid hrd
  clear hrd
  have Hb := Lib.hid hb
  clear hb
  have hi := Crc.lt_inv s
  have hib := inv_bits s hs
  have HI := Lib.hid (show Crc.join s l = Crc.inv (Crc.run (Crc.inv s) l) from rfl)
  generalize Crc.inv s = S at *
  go_enter Try.func14, Try.ntmps14
  go_wp2_with fail
  clear hib
  go_loopg [5, 6] l.length (fun g t c wr => ∃ k : Nat, k + g = l.length ∧ c = .int .i64 k ∧ w = wr ∧ t = .int .u32 (Crc.run S (l.take k) : Nat))
  case atStart => exact ⟨0, by omega, rfl, rfl, rfl⟩
  case round =>
    obtain ⟨k, hk, rfl, rfl, rfl⟩ := hrel
    have hrk : Crc.run S (l.take k) < 4294967296 := Crc.lt_run _ hi fun x hx => Hb.out x (List.mem_of_mem_take hx)
    by_cases hlt : k < l.length
    · obtain ⟨b, off, rfl, hbw, hc⟩ := Hrd.out.at (by rw [bys_length]; omega)
      have hck := hc k (by rw [bys_length]; omega)
      rw [bys_at l k hlt] at hck
      have hbk : l[k] < 256 := Hb.out _ (List.getElem_mem hlt)
      have HS := Lib.hid (run_snoc S l k hlt)
      generalize Crc.run S (l.take k) = R at *
      generalize l[k] = B at *
      clear hc
      have hk0 : (0 : Int) ≤ (k : Int) := by omega
      have hlt' : (k : Int) < (l.length : Int) := by omega
      go_wp2_with fail
      refine (remainder_any R B hrk hbk _).mono ?_
      rintro e w' ⟨rfl, rfl⟩
      go_wp2_with fail
      go_roundg (gk - 1)
      case measure => omega
      case rel => exact ⟨k + 1, by omega, by go_num, rfl, by rw [HS.out]⟩
    · obtain rfl : k = l.length := by omega
      rw [List.take_length] at hrk
      go_wp2_with fail
      go_ret
      refine ⟨ret_int ?_, rfl⟩
      rw [HI.out]
      exact inv_bits _ hrk

set_option maxHeartbeats 400000 in
theorem refSum_any (l : List Nat) (n : Nat) (hn : l.length = n) (a : Option Addr) (cap : Nat) (w : World) (hb : ∀ x ∈ l, x < 256) (hrd : Rd w a (bys l)) (hl : n ≤ 9223372036854775807) :
    Calls Try.prog 13 #[.slice a n cap] w fun e w' => e = .returned (.int .u32 (Crc.sum l : Nat)) ∧ w = w' := by
  have HC := Lib.hid (refJoin_any 0 l n hn a cap w (by omega) hb hrd hl)
  have HI := Lib.hid (Crc.sum_eq_join l)
  clear hb hrd hn
  go_enter Try.func13, Try.ntmps13
  go_wp2_with fail
  refine HC.out.mono ?_
  rintro e w' ⟨rfl, rfl⟩
  go_wp2_with fail
  go_ret
  exact ⟨ret_int (by rw [HI.out]), rfl⟩

set_option maxHeartbeats 1000000 in
theorem refSeal_any (l : List Nat) (n : Nat) (hn : l.length = n) (a : Option Addr) (cap : Nat) (w : World) (hb : ∀ x ∈ l, x < 256) (hrd : Rd w a (bys l)) (hl : n ≤ 1000000) :
    Calls Try.prog 15 #[.slice a n cap] w (NewBytes w (l ++ Crc.le4 (Crc.sum l))) := by
  have HS := Lib.hid (refSum_any l n hn a cap w hb hrd (by omega))
  have Hrd := Lib.hid hrd
  have Hn := Lib.hid hn
  have hlt : Crc.sum l < 4294967296 := Crc.lt_inv _
  obtain ⟨i0, hi0, hz0, hz1, hz2⟩ := info_parts info_u8
  clear hrd hn hb
  go_enter Try.func15, Try.ntmps15
  go_wp2_with fail
  refine HS.out.mono ?_
  rintro e w1 ⟨rfl, rfl⟩
  generalize Crc.sum l = s at *
  have HL := Lib.hid (le4_cells s hlt)
  go_wp2_with (at_builtin; refine wpList_append_rd _ rfl (.tmp 7) (.tmp 8) 22 rfl w.heap.size 5 i0 (.int .u8 0) 1 1 Try.underlying22 hi0 hz0 hz1 hz2 rfl (by decide) (.slice none 0 0) 0 [] rfl (World.ownsRow_nil _ _ _ _) a n cap (bys l) rfl Hrd.out ?h3 (bys_one _) ?h4 ?h5 (Nat.le_refl _) ?_)
  case h3 => rw [bys_length]; have := Hn.out; omega
  case h4 => unfold maxLen; omega
  case h5 => omega
  intro v1 w1 hown1 hgr1 _
  obtain ⟨a1, c1, rfl, _⟩ := own_slice hown1
  have hg1 : Grows w w1 := (Grows.refl _).grown hgr1 (by simp [Value.ownBlock])
  have Hown1 := Lib.hid hown1
  clear hown1
  go_wp2_with (at_builtin; refine wpList_append_rd _ rfl (.tmp 10) (.tmp 22) 22 rfl w.heap.size 5 i0 (.int .u8 0) 1 1 Try.underlying22 hi0 hz0 hz1 hz2 rfl (by decide) _ n _ rfl (Hown1.out.alloc _) (some ⟨w1.heap.size, 0, none⟩) 4 4 (bys (Crc.le4 s)) rfl ?k2 rfl (bys_one _) ?k4 ?k5 ?k6 ?_)
  case k2 => rw [HL.out]; exact rd_new w1 _ _ _
  case k4 => unfold maxLen; omega
  case k5 => omega
  case k6 => have := hg1.size; simp; omega
  intro v2 w2 hown2 hgr2 _
  obtain ⟨g, c, rfl, hge, _⟩ := own_form hown2 (by omega)
  go_wp2_with fail
  go_ret
  have hle : (l ++ Crc.le4 s).length = n + 4 := by rw [List.length_append, Hn.out]; rfl
  refine ⟨g, c, ?_, ?_⟩
  · rw [hle]; rfl
  · rw [hle, bys_append]
    refine ⟨hown2, (hg1.alloc _).grown hgr2 ?_⟩
    intro k hk
    exact (Hown1.out.lt k hk).1


set_option maxHeartbeats 400000 in
theorem refOpen_short (n : Nat) (h : n < 4) (a : Option Addr) (cap : Nat) (w : World) : Calls Try.prog 12 #[.slice a n cap] w (OpenNo w) := by
  have h1 : (n : Int) < 4 := by omega
  go_enter Try.func12, Try.ntmps12
  go_wp2
  go_ret2
  exact ⟨rfl, Grows.refl _⟩

theorem sealed_iff (l : List Nat) (n : Nat) (hn : l.length = n + 4) : l.drop (l.length - 4) = Crc.le4 (Crc.sum (l.take (l.length - 4))) ↔ ∀ i (h : i < 4), l[n + i]'(by omega) = Crc.sum (l.take n) / 2 ^ (8 * i) % 256 := by
  have e4 : l.length - 4 = n := by omega
  rw [e4]
  constructor
  · intro h i hi
    have h1 := congrArg (fun x => x[i]?) h
    simp only [List.getElem?_drop, le4_at _ i hi] at h1
    rw [List.getElem?_eq_getElem (by omega)] at h1
    injection h1
  · intro h
    apply List.ext_getElem?
    intro i
    by_cases hi : i < 4
    · rw [le4_at _ i hi, List.getElem?_drop, List.getElem?_eq_getElem (by omega), h i hi]
    · rw [List.getElem?_eq_none (by simp; omega), List.getElem?_eq_none (by simp [Crc.le4]; omega)]

set_option maxHeartbeats 1000000 in
theorem refOpen_long (l : List Nat) (n : Nat) (hn : l.length = n + 4) (a : Option Addr) (cap : Nat) (w : World) (hb : ∀ x ∈ l, x < 256) (hrd : Rd w a (bys l)) (hcap : n + 4 ≤ cap) (hl : n ≤ 1000000) :
    Calls Try.prog 12 #[.slice a (n + 4 : Nat) cap] w (OpenRes w l) := by
  have HRT : Hid (Rd w a (bys (l.take n))) := by
    have := hrd.cut 0 n cap (by omega)
    rw [← bys_cut] at this
    have h0 : cutAddr a cap 0 = a := by
      unfold cutAddr
      split
      · rfl
      · cases a <;> rfl
    rw [h0] at this
    exact (by simpa using this : Rd w a (bys (l.take n)))
  have HS := fun c => Lib.hid (refSum_any (l.take n) n (by simp; omega) a c w (fun x hx => hb x (List.mem_of_mem_take hx)) HRT.out (by omega))
  have Hiff := Lib.hid (sealed_iff l n hn)
  have hlt : Crc.sum (l.take n) < 4294967296 := Crc.lt_inv _
  have Hres : Hid (∀ e w', (if l.drop (l.length - 4) = Crc.le4 (Crc.sum (l.take (l.length - 4))) then OpenYes w (l.take n) e w' else OpenNo w e w') → OpenRes w l e w') := by
    intro e w' h
    rw [OpenRes, show l.take (l.length - 4) = l.take n by rw [hn, Nat.add_sub_cancel]]
    rw [show l.take (l.length - 4) = l.take n by rw [hn, Nat.add_sub_cancel]] at h
    exact h
  have Hn := Lib.hid hn
  obtain ⟨i0, hi0, hz0, hz1, hz2⟩ := info_parts info_u8
  obtain ⟨b, off, rfl, hbw, hc⟩ := hrd.at (by rw [bys_length]; omega)
  have c0 := hc n (by rw [bys_length]; omega)
  have c1 := hc (n + 1) (by rw [bys_length]; omega)
  have c2 := hc (n + 2) (by rw [bys_length]; omega)
  have c3 := hc (n + 3) (by rw [bys_length]; omega)
  rw [bys_at l _ (by omega)] at c0 c1 c2 c3
  have e0 := Lib.hid (Eq.refl l[n])
  generalize hs : Crc.sum (l.take n) = s at *
  generalize hx0 : l[n] = x0 at *
  generalize hx1 : l[n + 1] = x1 at *
  generalize hx2 : l[n + 2] = x2 at *
  generalize hx3 : l[n + 3] = x3 at *
  have Hyes : Hid (x0 = s % 256 ∧ x1 = s / 256 % 256 ∧ x2 = s / 65536 % 256 ∧ x3 = s / 16777216 → l.drop (l.length - 4) = Crc.le4 (Crc.sum (l.take (l.length - 4)))) := by
    rintro ⟨h0, h1, h2, h3⟩
    refine Hiff.out.2 fun i hi => ?_
    match i, hi with
    | 0, _ => simp only [Nat.add_zero, hx0, h0]; simp
    | 1, _ => simp only [hx1, h1]
    | 2, _ => simp only [hx2, h2]
    | 3, _ => simp only [hx3, h3]; omega
  have Hno : Hid (l.drop (l.length - 4) = Crc.le4 (Crc.sum (l.take (l.length - 4))) → x0 = s % 256 ∧ x1 = s / 256 % 256 ∧ x2 = s / 65536 % 256 ∧ x3 = s / 16777216) := by
    intro h
    have h' := Hiff.out.1 h
    have h0 := h' 0 (by omega)
    have h1 := h' 1 (by omega)
    have h2 := h' 2 (by omega)
    have h3 := h' 3 (by omega)
    simp only [Nat.add_zero, hx0, hx1, hx2, hx3] at h0 h1 h2 h3
    refine ⟨by simpa using h0, by simpa using h1, by simpa using h2, ?_⟩
    rw [h3]
    omega
  clear hrd hn hb hc e0 hs hx0 hx1 hx2 hx3 Hiff
  have hnc : (n : Int) ≤ (cap : Int) := by omega
  have hn0 : (0 : Int) ≤ (n : Int) := by omega
  have hn1 : (n : Int) < (n : Int) + 4 := by omega
  have hn4 : ¬ (n : Int) + 4 < 4 := by omega
  cases h0 : ((x0 : Int) != (s : Int) % 256) with
  | true =>
    go_enter Try.func12, Try.ntmps12
    go_wp2_with fail
    refine (HS _).out.mono ?_
    rintro e w1 ⟨rfl, rfl⟩
    go_wp2_with fail
    go_ret2
    refine Hres.out _ _ ?_
    rw [if_neg (fun h => ?_)]
    · exact ⟨rfl, Grows.refl _⟩
    · obtain ⟨k0, k1, k2, k3⟩ := Hno.out h
      simp at h0
      omega
  | false =>
    cases h1 : ((x1 : Int) != (s : Int) / 256 % 256) with
    | true =>
      go_enter Try.func12, Try.ntmps12
      go_wp2_with fail
      refine (HS _).out.mono ?_
      rintro e w1 ⟨rfl, rfl⟩
      go_wp2_with fail
      go_ret2
      refine Hres.out _ _ ?_
      rw [if_neg (fun h => ?_)]
      · exact ⟨rfl, Grows.refl _⟩
      · obtain ⟨k0, k1, k2, k3⟩ := Hno.out h
        simp at h1
        omega
    | false =>
      cases h2 : ((x2 : Int) != (s : Int) / 65536 % 256) with
      | true =>
        go_enter Try.func12, Try.ntmps12
        go_wp2_with fail
        refine (HS _).out.mono ?_
        rintro e w1 ⟨rfl, rfl⟩
        go_wp2_with fail
        go_ret2
        refine Hres.out _ _ ?_
        rw [if_neg (fun h => ?_)]
        · exact ⟨rfl, Grows.refl _⟩
        · obtain ⟨k0, k1, k2, k3⟩ := Hno.out h
          simp at h2
          omega
      | false =>
        cases h3 : ((x3 : Int) != (s : Int) / 16777216) with
        | true =>
          go_enter Try.func12, Try.ntmps12
          go_wp2_with fail
          refine (HS _).out.mono ?_
          rintro e w1 ⟨rfl, rfl⟩
          go_wp2_with fail
          go_ret2
          refine Hres.out _ _ ?_
          rw [if_neg (fun h => ?_)]
          · exact ⟨rfl, Grows.refl _⟩
          · obtain ⟨k0, k1, k2, k3⟩ := Hno.out h
            simp at h3
            omega
        | false =>
          go_enter Try.func12, Try.ntmps12
          go_wp2_with fail
          refine (HS _).out.mono ?_
          rintro e w1 ⟨rfl, rfl⟩
          go_wp2_with (at_builtin; refine wpList_append_rd _ rfl (.tmp 57) (.tmp 60) 22 rfl w.heap.size 5 i0 (.int .u8 0) 1 1 Try.underlying22 hi0 hz0 hz1 hz2 rfl (by decide) (.slice none 0 0) 0 [] rfl (World.ownsRow_nil _ _ _ _) _ n _ (bys (l.take n)) rfl HRT.out ?h3 (bys_one _) ?h4 ?h5 (Nat.le_refl _) ?_)
          case h3 => rw [bys_length, List.length_take]; have := Hn.out; omega
          case h4 => unfold maxLen; omega
          case h5 => omega
          intro v1 w1 hown1 hgr1 _
          obtain ⟨a1, c1, rfl, _⟩ := own_slice hown1
          go_wp2_with fail
          go_ret2
          refine Hres.out _ _ ?_
          rw [if_pos (Hyes.out (by simp at h0 h1 h2 h3; omega))]
          have hlen : (l.take n).length = n := by rw [List.length_take]; have := Hn.out; omega
          refine ⟨a1, c1, ?_, ?_⟩
          · rw [hlen]; simp
          · rw [hlen]
            exact ⟨hown1, (Grows.refl _).grown hgr1 (by simp [Value.ownBlock])⟩

end Go.Proofs.Ytgmpeljnekpefaa
