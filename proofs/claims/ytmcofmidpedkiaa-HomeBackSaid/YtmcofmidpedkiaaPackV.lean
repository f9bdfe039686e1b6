/-
  pack.Values and pack.ReadValues.
-/
import Derived.Test.YtmcofmidpedkiaaPackA
import Derived.Laws.CopyOwn
import Derived.Deep.RegionHeld3
namespace Go.Proofs.Ytmcofmidpedkiaa
open Go.RowKit

theorem own_at {w : World} {base : Nat} {e : TypeId} {size g n : Nat} {xs : List Value} (h : w.ownsRow base e size (.slice (some ⟨g, 0, none⟩) n n) n xs) : At w g e xs.toArray := by
  rcases h.2 with ⟨h', _⟩ | ⟨g', cap', cur, h', _, hg, _, _, hs, htake⟩
  · simp at h'
  · simp only [Value.slice.injEq, Option.some.injEq, Addr.mk.injEq, and_true, true_and] at h'
    obtain ⟨rfl, rfl⟩ := h'
    rw [List.take_of_length_le (by rw [Array.length_toList, hs]; exact Nat.le_refl _)] at htake
    rw [← htake]
    exact hg
theorem at_own {w : World} {base : Nat} {e : TypeId} {size g n : Nat} {xs : List Value} (h : At w g e xs.toArray) (hb : base ≤ g) (hl : xs.length = n * size) (hm : n ≤ maxLen) : w.ownsRow base e size (.slice (some ⟨g, 0, none⟩) n n) n xs :=
  ⟨hl, .inr ⟨g, n, xs.toArray, rfl, hb, h, Nat.le_refl _, hm, by simpa using hl, by rw [List.take_of_length_le (by simp; omega)]⟩⟩

/-- What has been copied so far: the first 8 i bytes; the rest is 0. -/
def sofar (L : List Nat) (N i : Nat) : List Nat := L.take i ++ List.replicate (N - i) 0
theorem sofar_zero (L : List Nat) (N : Nat) : sofar L N 0 = List.replicate N 0 := by simp [sofar]
theorem sofar_all (L : List Nat) (N : Nat) (h : L.length = N) : sofar L N N = L := by simp [sofar, List.take_of_length_le (Nat.le_of_eq h)]
theorem sofar_len (L : List Nat) (N i : Nat) (h : L.length = N) (hi : i ≤ N) : (sofar L N i).length = N := by simp [sofar]; omega
theorem sofar_step (L : List Nat) (N i : Nat) (h : L.length = N) (hi : i + 8 ≤ N) : splice (bys (sofar L N i)) i (bys ((L.drop i).take 8)) = bys (sofar L N (i + 8)) := by
  unfold splice
  have hl : (bys ((L.drop i).take 8)).length = 8 := by rw [bys_length]; simp; omega
  rw [hl]
  have h1 : (bys (sofar L N i)).take i = bys (L.take i) := by
    unfold bys sofar
    rw [List.map_append, List.take_append_of_le_length (by simp; omega), List.take_of_length_le (by simp; omega)]
  have h2 : (bys (sofar L N i)).drop (i + 8) = bys (List.replicate (N - (i + 8)) 0) := by
    unfold bys sofar
    rw [List.map_append, List.drop_append, List.drop_eq_nil_of_le (by simp; omega), List.nil_append, ← List.map_drop, List.drop_replicate]
    congr 2
    simp
    omega
  rw [h1, h2, sofar, List.take_add, bys_append, bys_append, List.append_assoc]

theorem add_cell {w : World} {b o : Nat} {cs : List Value} (h : ∀ j v, cs[j]? = some v → w.cell? ⟨b, o + j, none⟩ = some v) : ∀ j v, cs[j]? = some v → w.drew.cell? ((⟨b, o, none⟩ : Addr).add j) = some v := by
  intro j v hv
  rw [World.cell?_drew, ← h j v hv]
  congr 1
  simp only [Addr.add]
  split <;> simp_all

theorem bys_rep (n : Nat) : bys (List.replicate n 0) = List.replicate n (.int .u8 0) := by simp [bys]

theorem u8_size : (Try.prog.info? 5).map (·.size) = some 1 := by kernel_rfl
theorem info_val : (Try.prog.info? 35).map (fun i => (i.zero, i.size, i.bytes)) = some (some (.agg #[.int .u8 0, .int .u8 0, .int .u8 0, .int .u8 0, .int .u8 0, .int .u8 0, .int .u8 0, .int .u8 0]), 8, 8) := by kernel_rfl
theorem made_val (n : Nat) : (madeCells #[.int .u8 0, .int .u8 0, .int .u8 0, .int .u8 0, .int .u8 0, .int .u8 0, .int .u8 0, .int .u8 0] n).toList = List.replicate n (.int .u8 0) := by
  apply List.ext_getElem?
  intro i
  by_cases h : i < n
  · rw [List.getElem?_replicate, if_pos h]
    have h8 : i % 8 < 8 := Nat.mod_lt _ (by omega)
    simp only [madeCells, Array.toList_map, Array.toList_range, List.getElem?_map, List.getElem?_range h, Option.map_some]
    congr 1
    show (#[Value.int .u8 0, .int .u8 0, .int .u8 0, .int .u8 0, .int .u8 0, .int .u8 0, .int .u8 0, .int .u8 0] : Array Value)[i % 8]! = _
    generalize i % 8 = j at *
    match j, h8 with
    | 0, _ => rfl
    | 1, _ => rfl
    | 2, _ => rfl
    | 3, _ => rfl
    | 4, _ => rfl
    | 5, _ => rfl
    | 6, _ => rfl
    | 7, _ => rfl
  · rw [List.getElem?_eq_none (by simp [madeCells]; omega), List.getElem?_eq_none (by simp; omega)]

set_option maxHeartbeats 400000 in
theorem readValues_no (a : Option Addr) (n cap : Nat) (w : World) (h : n % 8 ≠ 0) : Calls Try.prog 28 #[.slice a n cap] w fun e w' => e = .returned (.tuple #[.slice none 0 0, .int .i64 40]) ∧ w = w' := by
  have h' : ((n : Int) % 8 != 0) = true := by simp; omega
  have h0 : (0 : Int) ≤ (n : Int) := by omega
  go_enter Try.func28, Try.ntmps28
  go_wp2
  go_ret2
  exact ⟨rfl, rfl⟩

set_option maxHeartbeats 1000000 in
theorem readValues_yes (L : List Nat) (m : Nat) (hL : L.length = m * 8) (a : Option Addr) (cap : Nat) (w : World) (hrd : Rd w a (bys L)) (hcap : m * 8 ≤ cap) (hm : m ≤ 100000) :
    Calls Try.prog 28 #[.slice a (m * 8 : Nat) cap] w fun e w' => ∃ g, e = .returned (.tuple #[.slice (some ⟨g, 0, none⟩) m m, .int .i64 0]) ∧ New w 35 8 m (bys L) (.slice (some ⟨g, 0, none⟩) m m) w' := by
  obtain ⟨i0, hi0, hz0, hz1, hz2⟩ := info_parts info_val
  have Hrd := Lib.hid hrd
  have HL := Lib.hid hL
  clear hrd hL
  have h' : ((m : Int) * 8 % 8 != 0) = false := by simp
  have hd : (m : Int) * 8 / 8 = (m : Int) := by omega
  have h0 : (0 : Int) ≤ (m : Int) * 8 := by omega
  go_enter Try.func28, Try.ntmps28
  go_wp2_with (at_make; refine wpList_make_full _ rfl _ _ 22 rfl w.heap.size 35 i0 _ 8 Try.underlying22 hi0 hz0 hz1 _ _ _ _ m rfl rfl (by omega) (by omega) ?h1 ?h2 (Nat.le_refl _) ?_)
  case h1 => rw [hz2]; omega
  case h2 => unfold maxLen; omega
  intro w1 hown1 hgr1
  have hg1 : Grows w w1 := (Grows.refl _).grown hgr1 (by simp)
  have Hat := Lib.hid (own_at hown1)
  clear hown1 hgr1 h' hd h0
  go_wp2_with fail
  go_loopg [16] m (fun gh t wr => ∃ k : Nat, k + gh = m ∧ t = .int .i64 k ∧ Below w.heap.size w wr ∧ At wr w.heap.size 35 (bys (sofar L (m * 8) (k * 8))).toArray)
  case atStart =>
    refine ⟨0, by omega, rfl, hg1, ?_⟩
    have h : At w1 w.heap.size 35 (madeCells #[.int .u8 0, .int .u8 0, .int .u8 0, .int .u8 0, .int .u8 0, .int .u8 0, .int .u8 0, .int .u8 0] (m * 8)).toList.toArray := Hat.out
    rw [made_val] at h
    rw [Nat.zero_mul, sofar_zero, bys_rep]
    exact h
  case round =>
    obtain ⟨k, hk, rfl, hg, hat⟩ := hrel
    have HA := Lib.hid hat
    clear hat
    by_cases hlt : k < m
    · obtain ⟨b, off, rfl, hbw, hc⟩ := Hrd.out.at (by rw [bys_length]; have := HL.out; omega)
      have Hcell : Hid (∀ j v, (bys ((L.drop (k * 8)).take 8))[j]? = some v → wr.cell? ⟨b, off + k * 8 + j, none⟩ = some v) := by
        intro j v hv
        have hj : j < 8 := by
          rcases Nat.lt_or_ge j 8 with h | h
          · exact h
          · rw [List.getElem?_eq_none (by rw [bys_length]; simp; omega)] at hv; cases hv
        rw [hg.cell (p := ⟨b, off + k * 8 + j, none⟩) hbw, show off + k * 8 + j = off + (k * 8 + j) by omega, hc (k * 8 + j) (by rw [bys_length]; have := HL.out; omega), ← hv, bys_cut, List.getElem?_take_of_lt hj, List.getElem?_drop]
        exact (List.getElem?_eq_getElem _).symm
      clear hc
      have hlt' : (k : Int) < (m : Int) := by omega
      have hk0 : (0 : Int) ≤ (k : Int) := by omega
      have hne : ¬ cap = k * 8 := by omega
      have hw1 : IntKind.i64.wrap ((k : Int) * 8) = (k : Int) * 8 := IntWalk.i64_in _ (by omega)
      have hk8 : (0 : Int) ≤ (k : Int) * 8 := by omega
      have hk8' : (k : Int) * 8 ≤ (m : Int) * 8 := by omega
      have htn : ((k : Int) * 8).toNat = k * 8 := by omega
      have hkm : k ≤ m := by omega
      have HST := Lib.hid (sofar_step L (m * 8) (k * 8) HL.out (by omega))
      have Hcl : Hid ((bys ((L.drop (k * 8)).take 8)).length = 8) := by show _ = _; rw [bys_length]; simp; have := HL.out; omega
      have Hsl : Hid ((bys (sofar L (m * 8) (k * 8))).length = m * 8) := by show _ = _; rw [bys_length]; exact sofar_len L _ _ HL.out (by omega)
      go_wp2_with fail
      go_region_held3 (fun _ => True) (exact True.intro) ((refine step_copy_splice rfl (.tmp 22) (.tmp 26) 28 28 rfl 5 Try.underlying28 u8_size (some ⟨w.heap.size, k * 8, none⟩) (some ⟨b, off + k * 8, none⟩) 8 8 (m * 8 - k * 8) (cap - k * 8) rfl rfl w.heap.size (k * 8) (bys (sofar L (m * 8) (k * 8))) 35 HA.out (bys ((L.drop (k * 8)).take 8)) (by rw [Hcl.out]; exact (Nat.min_eq_right (by omega)).symm) (fun _ => ⟨rfl, _, rfl, fun j v hv => (add_cell Hcell.out) j v hv⟩) (by rw [Hcl.out, Hsl.out]; omega) (bys_one _) w.heap.size w hg.drew (Nat.le_refl _) ?_; intro w2 hat2 hb2))
      go_wp2_with fail
      go_roundg (gk - 1)
      case measure => omega
      case rel =>
        refine ⟨k + 1, by omega, by go_num, hb2, ?_⟩
        rw [show (k + 1) * 8 = k * 8 + 8 by omega, ← HST.out]
        exact hat2.out
    · obtain rfl : k = m := by omega
      go_wp2_with fail
      go_ret2
      have h := HA.out
      rw [sofar_all L _ HL.out] at h
      exact ⟨w.heap.size, rfl, at_own h (Nat.le_refl _) (by rw [bys_length, HL.out]) (by unfold maxLen; omega), hg⟩

end Go.Proofs.Ytmcofmidpedkiaa
