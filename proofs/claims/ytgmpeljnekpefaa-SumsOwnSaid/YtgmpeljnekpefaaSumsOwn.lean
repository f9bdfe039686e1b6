/-
  SumsOwn returns true for all bytes: what is sealed and opened is new memory.
-/
import Derived.Test.YtgmpeljnekpefaaSumsOpen
namespace Go.Proofs.Ytgmpeljnekpefaa
open Go.RowKit

set_option maxHeartbeats 400000 in
theorem lawOwn_long (n : Nat) (a : Option Addr) (cap : Nat) (B : Int) (w : World) (h : 20000 < (n : Int)) :
    Calls Try.prog 5 #[.slice a n cap, .int .u8 B] w fun e w' => e = .returned (.bool true) ∧ Grows w w' := by
  go_enter Try.func5, Try.ntmps5
  go_wp2_with fail
  refine (wakes_any _).mono ?_
  rintro e w1 ⟨rfl, hb1⟩
  go_wp2_with fail
  go_ret
  exact ⟨rfl, hb1⟩

/-- What is written below a block's number leaves what lies below it. -/
theorem rd_below {w w' : World} {a : Option Addr} {xs : List Value} (h : Rd w a xs) {B : Nat} (hB : ∀ b o, a = some ⟨b, o, none⟩ → b < B) (hb : Below B w w') : Rd w' a xs := by
  rcases h with h | ⟨b, off, e, hbw, hc⟩
  · exact .inl h
  · refine .inr ⟨b, off, e, Nat.lt_of_lt_of_le hbw hb.size, fun i v hv => ?_⟩
    rw [hb.cell (p := ⟨b, off + i, none⟩) (hB b off e)]
    exact hc i v hv

set_option maxHeartbeats 1000000 in
theorem lawOwn_any (l : List Nat) (n : Nat) (hn : l.length = n) (a : Option Addr) (cap : Nat) (B : Int) (w : World) (hb : ∀ x ∈ l, x < 256) (hrd : Rd w a (bys l)) (hcap : n ≤ cap) (hnil : a = none → n = 0 ∧ cap = 0) (h1 : (n : Int) ≤ 20000) :
    Calls Try.prog 5 #[.slice a n cap, .int .u8 B] w fun e w' => e = .returned (.bool true) ∧ Grows w w' := by
  have HS := Lib.hid (seal_any l n hn a cap w hb hrd hcap hnil (by omega))
  have cv0 := run_conv (P := Try.prog) w 22 9 5 Try.underlying22 Try.underlying5 Try.underlying9 a l n cap hn hrd
  have Hcv := fun (W : World) (h : Grows w W) => Lib.hid (run_conv (P := Try.prog) W 22 9 5 Try.underlying22 Try.underlying5 Try.underlying9 a l n cap hn (hrd.grows h))
  have Hb := Lib.hid hb
  have Hn := Lib.hid hn
  clear hrd hb hn hnil
  have hlen : Hid ((l ++ Crc.le4 (Crc.sum l)).length = n + 4) := by show _ = _; rw [List.length_append, Hn.out]; rfl
  go_enter Try.func5, Try.ntmps5
  go_wp2_with fail
  refine HS.out.mono ?_
  rintro e w1 ⟨g, c, rfl, hown, hb1⟩
  rw [hlen.out] at hown ⊢
  go_wp2_with fail
  have hnc := (own_cap hown).1
  refine (open_sealed l _ hlen.out _ _ _ Hb.out (Rd.own hown) hnc (by omega)).mono ?_
  rintro e w2 ⟨a2, c2, rfl, hown2⟩
  rw [Hn.out] at hown2 ⊢
  have Hcx := fun (W : World) (h : Rd W a2 (bys l)) => Lib.hid (run_conv (P := Try.prog) W 22 9 5 Try.underlying22 Try.underlying5 Try.underlying9 a2 l n c2 Hn.out h)
  generalize strN l = S at *
  clear cv0
  have Hown := Lib.hid (own_grows hown hown2.2)
  have Hown2 := Lib.hid hown2.1
  have hG := hb1.trans hown2.2
  have hgw : w.heap.size ≤ g ∧ g < w1.heap.size := hown.lt g rfl
  have hg1 := hb1.size
  clear hown hown2
  go_wp2_with fail
  go_loopg [36] (n + 4) (fun gh i wr => ∃ (k : Nat) (zs : List Int), k + gh = n + 4 ∧ i = .int .i64 k ∧ Grows w wr ∧ wr.ownsRow w.heap.size 5 1 (.slice (some ⟨g, 0, none⟩) (n + 4) c) (n + 4) (zs.map (Value.int .u8)) ∧ wr.ownsRow w1.heap.size 5 1 (.slice a2 n c2) n (bys l))
  case atStart => exact ⟨0, (l ++ Crc.le4 (Crc.sum l)).map Int.ofNat, by omega, rfl, hG, by rw [List.map_map]; exact Hown.out, Hown2.out⟩
  case round =>
    obtain ⟨k, zs, hk, rfl, hg, ho1, ho2⟩ := hrel
    have HO1 := Lib.hid ho1
    have HO2 := Lib.hid ho2
    by_cases hlt : k < n + 4
    · have hzl : zs.length = n + 4 := by have := ho1.1; simpa using this
      have hcell := ho1.cellAt k (by omega)
      rw [List.getElem?_eq_getElem (by simp; omega), List.getElem_map] at hcell
      have hfr := ho1.frozenAt k
      generalize zs[k]'(by omega) = z at *
      clear ho1 ho2 hzl
      have hlt' : (k : Int) < (n : Int) + 4 := by omega
      have hk0 : (0 : Int) ≤ (k : Int) := by omega
      go_wp2_with fail
      go_roundg (gk - 1)
      case measure => omega
      case rel =>
        have hst := HO1.out.stored k (.int .u8 (bits .xor .u8 z B))
        refine ⟨k + 1, zs.set k (bits .xor .u8 z B), by omega, by go_num, hg.setCell (p := ⟨g, k, none⟩) hgw.1 _, ?_, HO2.out.kept hst.2 ?_⟩
        · rw [List.map_set]; exact hst.1
        · cases a2 with
          | none => exact .inl rfl
          | some ad =>
            refine .inr ?_
            intro h
            have := (HO2.out.lt _ h).1
            omega
    · clear ho1 ho2
      have hge : ¬ (k : Int) < (n : Int) + 4 := by omega
      have cv1 := (Hcx wr (Rd.own HO2.out)).out
      have cv2 := (Hcv wr hg).out
      go_wp2_with fail
      clear cv1 cv2
      obtain ⟨wo, rfl⟩ : ∃ wo : World, wo = wr := ⟨_, rfl⟩
      go_loopg [61] n (fun gh i wr => ∃ (k : Nat) (zs : List Int), k + gh = n ∧ i = .int .i64 k ∧ Grows w wr ∧ wr.ownsRow w1.heap.size 5 1 (.slice a2 n c2) n (zs.map (Value.int .u8)))
      case atStart => exact ⟨0, l.map Int.ofNat, by omega, rfl, hg, by rw [List.map_map]; exact HO2.out⟩
      case round =>
        obtain ⟨k2, zs2, hk2, rfl, hg2, ho2⟩ := hrel
        have HO3 := Lib.hid ho2
        by_cases hlt2 : k2 < n
        · obtain ⟨g2, c3, hv, hg2w, _⟩ := own_form ho2 (by omega)
          injection hv with hv1 hv2 hv3
          subst hv1
          have hzl : zs2.length = n := by have := ho2.1; simpa using this
          have hcell := ho2.cellAt k2 (by omega)
          rw [List.getElem?_eq_getElem (by simp; omega), List.getElem_map] at hcell
          have hfr := ho2.frozenAt k2
          generalize zs2[k2]'(by omega) = z at *
          clear ho2 hzl hv3
          have hlt' : (k2 : Int) < (n : Int) := by omega
          have hk0 : (0 : Int) ≤ (k2 : Int) := by omega
          go_wp2_with fail
          go_roundg (gk - 1)
          case measure => omega
          case rel =>
            have hst := HO3.out.stored k2 (.int .u8 (bits .xor .u8 z B))
            refine ⟨k2 + 1, zs2.set k2 (bits .xor .u8 z B), by omega, by go_num, hg2.setCell (p := ⟨g2, k2, none⟩) (by simp; omega) _, ?_⟩
            rw [List.map_set]; exact hst.1
        · have hge2 : ¬ (k2 : Int) < (n : Int) := by omega
          clear ho2
          have cv2 := (Hcv wr hg2).out
          go_wp2_with fail
          refine (wakes_any _).mono ?_
          rintro e w4 ⟨rfl, hb4⟩
          go_wp2_with fail
          go_ret
          exact ⟨rfl, hg2.trans hb4⟩

theorem lawOwn (l : List Nat) (n : Nat) (hn : l.length = n) (a : Option Addr) (cap : Nat) (B : Int) (w : World) (hb : ∀ x ∈ l, x < 256) (hrd : Rd w a (bys l)) (hcap : n ≤ cap) (hnil : a = none → n = 0 ∧ cap = 0) :
    Calls Try.prog 5 #[.slice a n cap, .int .u8 B] w fun e w' => e = .returned (.bool true) ∧ Grows w w' := by
  by_cases h : 20000 < (n : Int)
  · exact lawOwn_long n a cap B w h
  · exact lawOwn_any l n hn a cap B w hb hrd hcap hnil (by omega)

end Go.Proofs.Ytgmpeljnekpefaa
