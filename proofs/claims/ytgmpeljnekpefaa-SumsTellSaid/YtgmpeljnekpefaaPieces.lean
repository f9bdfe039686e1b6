/-
  SumsPieces returns true for all bytes and cuts: the sum of pieces is that of the whole.
-/
import Derived.Test.YtgmpeljnekpefaaSumsB
import Derived.Test.YtgmpeljnekpefaaApp
import Derived.Lib.SlBytesConst
namespace Go.Proofs.Ytgmpeljnekpefaa
open Go.RowKit

theorem sum_n (l : List Nat) (n : Nat) (hn : l.length = n) (a : Option Addr) (cap : Nat) (w : World) (hb : ∀ x ∈ l, x < 256) (hrd : Rd w a (bys l)) (hl : n ≤ 9223372036854775807) :
    Calls Try.prog 9 #[.slice a n cap] w fun e w' => e = .returned (.int .u32 (Crc.sum l : Nat)) ∧ Grows w w' := by
  subst hn; exact sum_any l a cap w hb hrd hl
theorem join_n (s : Nat) (l : List Nat) (n : Nat) (hn : l.length = n) (a : Option Addr) (cap : Nat) (w : World) (hs : s < 4294967296) (hb : ∀ x ∈ l, x < 256) (hrd : Rd w a (bys l)) (hl : n ≤ 9223372036854775807) :
    Calls Try.prog 8 #[.int .u32 s, .slice a n cap] w fun e w' => e = .returned (.int .u32 (Crc.join s l : Nat)) ∧ Grows w w' := by
  subst hn; exact join_any s l a cap w hs hb hrd hl
theorem rd_if {w : World} {a X : Option Addr} {cap at_ : Nat} {p : Prop} {xs : List Value} (h : Hid (p → Rd w (cutAddr a cap at_) xs)) (hp : p) (hX : (cap = at_ ∧ X = a) ∨ (¬ cap = at_ ∧ X = a.map (·.add at_))) : Rd w X xs := by
  have h1 := h.out hp
  rcases hX with ⟨h2, rfl⟩ | ⟨h2, rfl⟩
  · rwa [cutAddr, if_pos h2] at h1
  · rwa [cutAddr, if_neg h2] at h1
theorem join_nil : Crc.join 0 [] = 0 := by decide
theorem lt_join (s : Nat) (l : List Nat) : Crc.join s l < 4294967296 := Crc.lt_inv _

set_option maxHeartbeats 400000 in
theorem wakes_any (w : World) : Calls Try.prog 7 #[] w fun e w' => e = .returned (.bool true) ∧ Grows w w' := by
  have kc := fun (w : World) (C : Array Value) (n c : Nat) => Lib.run_convert_bytes_const (P := Try.prog) w 22 5 C n c Try.underlying22 Try.underlying5
  go_enter Try.func7, Try.ntmps7
  go_wp2_with fail
  refine (sum_n [] 0 rfl none 0 _ (by simp) (.inl rfl) (by omega)).mono ?_
  rintro e w1 ⟨rfl, hb1⟩
  rw [Crc.sum_nil]
  go_wp2_with fail
  refine (sum_n [49, 50, 51, 52, 53, 54, 55, 56, 57] 9 rfl _ _ _ (by decide) ?_ (by omega)).mono ?_
  · refine .inr ⟨w1.heap.size, 0, rfl, by simp, fun i v hv => ?_⟩
    rw [World.cell?_alloc_mark]
    rw [Nat.zero_add]
    rw [← hv]
    simp [bys]
  rintro e w2 ⟨rfl, hb2⟩
  rw [Crc.sum_digits]
  go_wp2_with fail
  go_ret
  exact ⟨rfl, (hb1.alloc _).trans hb2⟩


set_option maxHeartbeats 400000 in
theorem pieces_long (a c : Option Addr) (n cap m cap2 : Nat) (w : World) (h : 20000 < (n : Int) ∨ 100 < (m : Int)) :
    Calls Try.prog 3 #[.slice a n cap, .slice c m cap2] w fun e w' => e = .returned (.bool true) ∧ Grows w w' := by
  by_cases h1 : 20000 < (n : Int)
  · clear h
    go_enter Try.func3, Try.ntmps3
    go_wp2_with fail
    refine (wakes_any _).mono ?_
    rintro e w1 ⟨rfl, hb1⟩
    go_wp2_with fail
    go_ret
    exact ⟨rfl, hb1⟩
  · have h2 : 100 < (m : Int) := by omega
    clear h
    go_enter Try.func3, Try.ntmps3
    go_wp2_with fail
    refine (wakes_any _).mono ?_
    rintro e w1 ⟨rfl, hb1⟩
    go_wp2_with fail
    go_ret
    exact ⟨rfl, hb1⟩

set_option maxHeartbeats 1000000 in
theorem pieces_any (l : List Nat) (n : Nat) (hn : l.length = n) (a : Option Addr) (cap : Nat) (zs : List Int) (m : Nat) (hm : zs.length = m) (c : Option Addr) (cap2 : Nat) (w : World)
    (hb : ∀ x ∈ l, x < 256) (hrd : Rd w a (bys l)) (hcap : n ≤ cap) (hnil : a = none → n = 0 ∧ cap = 0) (hrc : Rd w c (zs.map (Value.int .i64))) (h1 : (n : Int) ≤ 20000) (h2 : (m : Int) ≤ 100) :
    Calls Try.prog 3 #[.slice a n cap, .slice c m cap2] w fun e w' => e = .returned (.bool true) ∧ Grows w w' := by
  have Hrd := Lib.hid hrd
  have Hb := Lib.hid hb
  have Hrc := Lib.hid hrc
  have Hnil := Lib.hid hnil
  have Hn := Lib.hid hn
  have Hm := Lib.hid hm
  clear hrd hb hrc hnil hn hm
  go_enter Try.func3, Try.ntmps3
  go_wp2_with fail
  go_loopg [5, 6, 21] m (fun g s t i wr => ∃ k at_ : Nat, k + g = m ∧ i = .int .i64 k ∧ t = .int .i64 at_ ∧ at_ ≤ n ∧ s = .int .u32 (Crc.join 0 (l.take at_) : Nat) ∧ Grows w wr)
  case atStart => exact ⟨0, 0, by omega, rfl, rfl, by omega, by rw [List.take_zero, join_nil]; rfl, Grows.refl _⟩
  case round =>
    obtain ⟨k, at_, hk, rfl, rfl, hat, rfl, hg⟩ := hrel
    have hj := lt_join 0 (l.take at_)
    have HJ := Lib.hid (show ∀ e, Crc.join (Crc.join 0 (l.take at_)) ((l.drop at_).take e) = Crc.join 0 (l.take (at_ + e)) from fun e => by
      rw [Crc.join_append 0 _ _ (by omega) fun x hx => Hb.out x (List.mem_of_mem_take hx), List.take_add])
    generalize Crc.join 0 (l.take at_) = S at *
    have Hcut : ∀ e, Hid (at_ + e ≤ n → Rd wr (cutAddr a cap at_) (bys ((l.drop at_).take e))) := fun e he => by
      rw [bys_cut]
      exact (Hrd.out.grows hg).cut at_ e cap (by omega)
    by_cases hlt : k < m
    · obtain ⟨b, off, rfl, hbw, hc⟩ := Hrc.out.at (by simp [Hm.out]; omega)
      have hck := (hg.cell b (off + k) hbw).trans (hc k (by simp [Hm.out]; omega))
      clear hc
      rw [List.getElem_map] at hck
      generalize zs[k]'(by rw [Hm.out]; exact hlt) = x at *
      have hlt' : (k : Int) < (m : Int) := by omega
      have hk0 : (0 : Int) ≤ (k : Int) := by omega
      have hat0 : (0 : Int) ≤ (at_ : Int) := by omega
      have hatn : (at_ : Int) ≤ (n : Int) := by omega
      obtain ⟨e, he1, he2⟩ : ∃ e : Nat, at_ + e ≤ n ∧ min (max x at_) n = ((at_ + e : Nat) : Int) := ⟨(min (max x at_) n - at_).toNat, by omega, by omega⟩
      have HE := Lib.hid he2
      clear he2
      have hce : at_ = cap ∨ ¬ cap = at_ := by omega
      rcases hce with rfl | hce
      all_goals
        by_cases hx1 : x ≤ at_
        · obtain rfl : e = 0 := by have := HE.out; omega
          go_wp2_with fail
          all_goals
            refine (join_n S ((l.drop at_).take 0) _ (by have := Hn.out; simp <;> omega) _ _ _ hj (fun y hy => Hb.out y (List.mem_of_mem_drop (List.mem_of_mem_take hy))) (rd_if (Hcut 0) he1 (by first | exact .inl ⟨rfl, rfl⟩ | exact .inr ⟨hce, rfl⟩)) (by omega)).mono ?_
            rintro e' w1 ⟨rfl, hb1⟩
            rw [HJ.out]
            go_wp2_with fail
            go_roundg (gk - 1)
            case measure => omega
            case rel => exact ⟨k + 1, at_ + 0, by omega, by go_num, by go_num, by omega, rfl, hg.trans hb1⟩
        · by_cases hx2 : x ≤ n
          · obtain rfl : x = ((at_ + e : Nat) : Int) := by have := HE.out; omega
            go_wp2_with fail
            all_goals
              refine (join_n S ((l.drop at_).take e) _ (by have := Hn.out; simp <;> omega) _ _ _ hj (fun y hy => Hb.out y (List.mem_of_mem_drop (List.mem_of_mem_take hy))) (rd_if (Hcut e) he1 (by first | exact .inl ⟨rfl, rfl⟩ | exact .inr ⟨hce, rfl⟩)) (by omega)).mono ?_
              rintro e' w1 ⟨rfl, hb1⟩
              rw [HJ.out]
              go_wp2_with fail
              go_roundg (gk - 1)
              case measure => omega
              case rel => exact ⟨k + 1, at_ + e, by omega, by go_num, by go_num, by omega, rfl, hg.trans hb1⟩
          · obtain rfl : n = at_ + e := by have := HE.out; omega
            go_wp2_with fail
            all_goals
              refine (join_n S ((l.drop at_).take e) _ (by have := Hn.out; simp <;> omega) _ _ _ hj (fun y hy => Hb.out y (List.mem_of_mem_drop (List.mem_of_mem_take hy))) (rd_if (Hcut e) he1 (by first | exact .inl ⟨rfl, rfl⟩ | exact .inr ⟨hce, rfl⟩)) (by omega)).mono ?_
              rintro e' w1 ⟨rfl, hb1⟩
              rw [HJ.out]
              go_wp2_with fail
              go_roundg (gk - 1)
              case measure => omega
              case rel => exact ⟨k + 1, at_ + e, by omega, by go_num, by go_num, by omega, rfl, hg.trans hb1⟩
    · have hge : ¬ (k : Int) < (m : Int) := by omega
      have hat0 : (0 : Int) ≤ (at_ : Int) := by omega
      have hatn : (at_ : Int) ≤ (n : Int) := by omega
      have Hall := Lib.hid (show Crc.join 0 (l.take (at_ + (n - at_))) = Crc.sum l by rw [show at_ + (n - at_) = n by omega, List.take_of_length_le (by have := Hn.out; omega)]; rfl)
      have HS := Lib.hid (sum_n l n Hn.out a cap)
      have hbl := Hb.out
      have Hlt : Hid (Crc.sum l < 4294967296) := Crc.lt_inv _
      have Hrl := Lib.hid (Hrd.out.grows hg)
      have hce : at_ = cap ∨ ¬ cap = at_ := by omega
      rcases hce with rfl | hce
      all_goals
        go_wp2_with fail
        refine (join_n S ((l.drop at_).take (n - at_)) _ (by have := Hn.out; simp <;> omega) _ _ _ hj (fun y hy => Hb.out y (List.mem_of_mem_drop (List.mem_of_mem_take hy))) (rd_if (Hcut (n - at_)) (by omega) (by first | exact .inl ⟨rfl, rfl⟩ | exact .inr ⟨hce, rfl⟩)) (by omega)).mono ?_
        rintro e' w1 ⟨rfl, hb1⟩
        rw [HJ.out, Hall.out]
        go_wp2_with fail
        refine (HS.out _ Hb.out (Hrl.out.grows hb1) (by omega)).mono ?_
        rintro e' w2 ⟨rfl, hb2⟩
        go_wp2_with fail
        refine (wakes_any _).mono ?_
        rintro e' w3 ⟨rfl, hb3⟩
        go_wp2_with fail
        go_ret
        exact ⟨rfl, ((hg.trans hb1).trans hb2).trans hb3⟩


theorem pieces_all (l : List Nat) (n : Nat) (hn : l.length = n) (a : Option Addr) (cap : Nat) (zs : List Int) (m : Nat) (hm : zs.length = m) (c : Option Addr) (cap2 : Nat) (w : World)
    (hb : ∀ x ∈ l, x < 256) (hrd : Rd w a (bys l)) (hcap : n ≤ cap) (hnil : a = none → n = 0 ∧ cap = 0) (hrc : Rd w c (zs.map (Value.int .i64))) :
    Calls Try.prog 3 #[.slice a n cap, .slice c m cap2] w fun e w' => e = .returned (.bool true) ∧ Grows w w' := by
  by_cases h : 20000 < (n : Int) ∨ 100 < (m : Int)
  · exact pieces_long a c n cap m cap2 w h
  · exact pieces_any l n hn a cap zs m hm c cap2 w hb hrd hcap hnil hrc (by omega) (by omega)

end Go.Proofs.Ytgmpeljnekpefaa
