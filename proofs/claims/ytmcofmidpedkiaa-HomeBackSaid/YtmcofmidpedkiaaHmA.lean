/-
  home: is, zeros, open.
-/
import Derived.Test.YtmcofmidpedkiaaDkH
import Derived.Test.YtmcofmidpedkiaaOpenW
import Derived.Test.YtmcofmidpedkiaaPackV
namespace Go.Proofs.Ytmcofmidpedkiaa
open Go.RowKit

theorem his_yes (n : Int) (w : World) (h0 : 0 ≤ n) (h1 : n < 8) : Calls Try.prog 21 #[.int .i64 n] w fun e w' => e = .returned (.bool true) ∧ w = w' := by
  go_enter Try.func21, Try.ntmps21
  go_wp2_with fail
  go_ret
  exact ⟨rfl, rfl⟩
theorem his_no (n : Int) (w : World) (h : ¬ (0 ≤ n ∧ n < 8)) : Calls Try.prog 21 #[.int .i64 n] w fun e w' => e = .returned (.bool false) ∧ w = w' := by
  by_cases h0 : 0 ≤ n
  · have h1 : ¬ n < 8 := by omega
    go_enter Try.func21, Try.ntmps21
    go_wp2_with fail
    go_ret
    exact ⟨rfl, rfl⟩
  · go_enter Try.func21, Try.ntmps21
    go_wp2_with fail
    go_ret
    exact ⟨rfl, rfl⟩

/-- Are all bytes 0? -/
def zerosB (l : List Nat) : Bool := l.all (· == 0)
theorem zeros_any (l : List Nat) (n : Nat) (hn : l.length = n) (a : Option Addr) (cap : Nat) (w : World) (hr : Rd w a (bys l)) (hl : n ≤ 1000000) :
    Calls Try.prog 26 #[.slice a n cap] w fun e w' => e = .returned (.bool (zerosB l)) ∧ w = w' := by
  have HR := Lib.hid hr
  have HN := Lib.hid hn
  clear hr hn
  go_enter Try.func26, Try.ntmps26
  go_wp2_with fail
  go_loopg [7] n (fun gh i wr => ∃ (k : Nat), k + gh = n ∧ i = .int .i64 (k : Int) ∧ (∀ x ∈ l.take k, x = 0) ∧ wr = w)
  case atStart => exact ⟨0, by omega, rfl, by simp, rfl⟩
  case round =>
    obtain ⟨k, hk, rfl, hall, rfl⟩ := hrel
    have HA := Lib.hid hall
    clear hall
    by_cases hlt : k < n
    · have hlt' : (k : Int) < (n : Int) := by omega
      have hk0 : (0 : Int) ≤ (k : Int) := by omega
      obtain ⟨b, off, rfl, hb, hc⟩ := HR.out.at (by rw [bys_length, HN.out]; omega)
      have hck := hc k (by rw [bys_length, HN.out]; exact hlt)
      rw [bys_at l k (by rw [HN.out]; exact hlt)] at hck
      have HM : Hid (l[k]'(by rw [HN.out]; exact hlt) ∈ l) := List.getElem_mem _
      have HT : Hid (l.take (k + 1) = l.take k ++ [l[k]'(by rw [HN.out]; exact hlt)]) := List.take_succ_eq_append_getElem _
      clear hc
      generalize l[k]'(by rw [HN.out]; exact hlt) = x at *
      by_cases hx : x = 0
      · subst hx
        go_wp2_with fail
        go_roundg (gk - 1)
        case measure => omega
        case rel => exact ⟨k + 1, by omega, by go_num, by
          intro y hy
          rw [HT.out] at hy
          rcases List.mem_append.1 hy with h | h
          · exact HA.out y h
          · simpa using h, rfl⟩
      · have hx' : ((x : Int) != 0) = true := by simp; omega
        have HZ : Hid (zerosB l = false) := by
          show _ = _
          rw [zerosB, List.all_eq_false]
          exact ⟨x, HM.out, by simpa using hx⟩
        go_wp2_with fail
        go_ret
        exact ⟨by rw [HZ.out]; rfl, rfl⟩
    · obtain rfl : k = n := by omega
      have HZ : Hid (zerosB l = true) := by
        show _ = _
        rw [zerosB, List.all_eq_true]
        intro x hx
        have := HA.out x (by rw [List.take_of_length_le (by rw [HN.out]; omega)]; exact hx)
        simpa using this
      go_wp2_with fail
      go_ret
      exact ⟨by rw [HZ.out]; rfl, rfl⟩

/-- Is what stands in a sector's first s bytes sealed, with 0s behind? -/
def sealedB (l : List Nat) (s : Nat) : Bool := zerosB (l.drop s) && decide ((l.take s).drop (s - 4) = Crc.le4 (Crc.sum (l.take (s - 4))))
theorem hopen_any (l : List Nat) (hl : l.length = 64) (s : Nat) (hs : 4 ≤ s) (hs2 : s ≤ 60) (g cap : Nat) (hcap : 64 ≤ cap) (w : World) (hr : Rd w (some ⟨g, 0, none⟩) (bys l)) (hb : ∀ x ∈ l, x < 256) :
    Calls Try.prog 27 #[.slice (some ⟨g, 0, none⟩) 64 cap, .int .i64 (s : Int)] w fun e w' => if sealedB l s then OpenYes w (l.take (s - 4)) e w' else OpenNo w e w' := by
  have hcut := hr.cut s (64 - s) cap (by omega)
  have e1 : cutAddr (some ⟨g, 0, none⟩) cap s = some ⟨g, s, none⟩ := by
    unfold cutAddr
    rw [if_neg (by omega)]
    simp only [Option.map_some, Addr.add]
    rw [if_neg (by omega)]
    simp
  rw [e1, ← bys_cut, List.take_of_length_le (by simp; omega)] at hcut
  have HZ : Hid (Calls Try.prog 26 #[.slice (some ⟨g, s, none⟩) (64 - s) (cap - s)] w fun e w' => e = .returned (.bool (zerosB (l.drop s))) ∧ w = w') := zeros_any (l.drop s) (64 - s) (by simp [hl]) _ _ w hcut (by omega)
  have hlt : (l.take s).length = s := by simp [hl]; omega
  have hrt : Rd w (some ⟨g, 0, none⟩) (bys (l.take s)) := by
    have := rd_take hr s
    rwa [bys, ← List.map_take] at this
  have hop := open_long (l.take s) (s - 4) (by rw [hlt]; omega) (some ⟨g, 0, none⟩) s w (fun x hx => hb x (List.mem_of_mem_take hx)) hrt (by omega) (by omega)
  rw [Nat.sub_add_cancel hs] at hop
  have hres : ∀ e w', OpenRes w (l.take s) e w' → if decide ((l.take s).drop (s - 4) = Crc.le4 (Crc.sum (l.take (s - 4)))) = true then OpenYes w (l.take (s - 4)) e w' else OpenNo w e w' := fun e w' h => by
    unfold OpenRes at h
    rw [hlt, List.take_take, Nat.min_eq_left (by omega)] at h
    by_cases hq : (l.take s).drop (s - 4) = Crc.le4 (Crc.sum (l.take (s - 4)))
    · rw [if_pos hq] at h; rw [if_pos (decide_eq_true hq)]; exact h
    · rw [if_neg hq] at h; rw [if_neg (by simpa using hq)]; exact h
  have HOP := Lib.hid hop
  have HRES := Lib.hid hres
  unfold sealedB
  generalize decide ((l.take s).drop (s - 4) = Crc.le4 (Crc.sum (l.take (s - 4)))) = sd at *
  generalize zerosB (l.drop s) = zd at *
  generalize l.take (s - 4) = bd at *
  have h1 : ¬ (64 : Int) < (s : Int) := by omega
  have h2 : (0 : Int) ≤ (s : Int) := by omega
  have h3 : (s : Int) ≤ 64 := by omega
  have h4 : (s : Int) ≤ (cap : Int) := by omega
  have h5 : ¬ cap = s := by omega
  have h6 : s ≤ 64 := by omega
  clear hr hcut e1 hlt hrt hop hres hb hl
  cases zd with
  | false =>
    go_enter Try.func27, Try.ntmps27
    go_wp2_with (first | (go_at_call 26; refine HZ.out.mono ?_; rintro e w' ⟨rfl, rfl⟩))
    go_ret2
    exact ⟨rfl, Grows.refl _⟩
  | true =>
    go_enter Try.func27, Try.ntmps27
    go_wp2_with (first | (go_at_call 26; refine HZ.out.mono ?_; rintro e w' ⟨rfl, rfl⟩))
    refine HOP.out.mono ?_
    intro e w2 h
    have h := HRES.out e w2 h
    cases sd with
    | true =>
      rw [if_pos rfl] at h
      obtain ⟨a2, c2, rfl, hN⟩ := h
      go_wp2_with fail
      go_ret2
      exact ⟨a2, c2, rfl, hN⟩
    | false =>
      rw [if_neg (by simp)] at h
      obtain ⟨rfl, hG⟩ := h
      go_wp2_with fail
      go_ret2
      exact ⟨rfl, hG⟩
end Go.Proofs.Ytmcofmidpedkiaa
