/-
  A home with a byte changed is not sealed.
-/
import Derived.Test.YtmcofmidpedkiaaHmC
namespace Go.Proofs.Ytmcofmidpedkiaa

theorem Crc.big_xor : ∀ (l : List Nat) (q y : Nat) (hq : q < l.length), Crc.big (l.set q (l[q] ^^^ y)) = Crc.big l ^^^ 2 ^ (8 * q) * y
  | [], _, _, hq => by simp at hq
  | b :: l, 0, y, _ => by
    simp only [List.set_cons_zero, List.getElem_cons_zero, Crc.big, Nat.mul_zero, Nat.pow_zero, Nat.one_mul]
    ac_rfl
  | b :: l, q + 1, y, hq => by
    simp only [List.set_cons_succ, List.getElem_cons_succ, Crc.big]
    rw [Crc.big_xor l q y (by simpa using hq), Crc.mul_pow_xor, show 2 ^ (8 * (q + 1)) = 2 ^ 8 * 2 ^ (8 * q) by rw [← Nat.pow_add]; congr 1; omega, Nat.mul_assoc]
    ac_rfl
theorem le4_lt (s : Nat) : ∀ x ∈ Crc.le4 s, x < 256 := by
  intro x hx
  simp only [Crc.le4, List.mem_cons, List.not_mem_nil, or_false] at hx
  omega
theorem seal_lt (L : List Nat) (hb : ∀ x ∈ L, x < 256) : ∀ x ∈ sealBy L, x < 256 := by
  intro x hx
  rcases List.mem_append.1 hx with h | h
  · exact hb x h
  · exact le4_lt _ x h
theorem padl_lt (l : List Nat) (hb : ∀ x ∈ l, x < 256) : ∀ x ∈ pad l, x < 256 := by
  intro x hx
  unfold pad at hx
  rcases List.mem_append.1 hx with h | h
  · exact hb x h
  · rw [List.eq_of_mem_replicate h]; omega
theorem xor_lt8 {a b : Nat} (ha : a < 256) (hb : b < 256) : a ^^^ b < 256 := by
  have := Nat.xor_lt_two_pow (x := a) (y := b) (n := 8) (by omega) (by omega)
  omega
theorem set_lt8 {l : List Nat} (hb : ∀ x ∈ l, x < 256) (q v : Nat) (hv : v < 256) : ∀ x ∈ l.set q v, x < 256 := by
  intro x hx
  rcases List.mem_or_eq_of_mem_set hx with h | h
  · exact hb x h
  · rw [h]; exact hv
theorem pad_get_l (l : List Nat) (q : Nat) (h : q < l.length) (h' : q < (pad l).length) : (pad l)[q] = l[q] := List.getElem_append_left h
theorem pad_get_r (l : List Nat) (q : Nat) (h : l.length ≤ q) (h' : q < (pad l).length) : (pad l)[q] = 0 := (List.getElem_append_right h).trans (by simp)
/-- What is sealed, s bytes in all. -/
theorem sealedB_run {l : List Nat} {s : Nat} (hs : 4 ≤ s) (hb : ∀ x ∈ l, x < 256) (h : sealedB l s = true) : zerosB (l.drop s) = true ∧ Crc.run 4294967295 (l.take s) = Crc.st 32 4294967295 := by
  unfold sealedB at h
  rw [Bool.and_eq_true, decide_eq_true_eq] at h
  refine ⟨h.1, ?_⟩
  have h2 := Crc.run_sealed (l.take (s - 4)) (fun x hx => hb x (List.mem_of_mem_take hx))
  rw [← h.2, List.drop_take, show s - (s - 4) = 4 by omega] at h2
  have h3 : l.take (s - 4) ++ (l.drop (s - 4)).take 4 = l.take s := by
    rw [← List.take_add]
    congr 1
    omega
  rwa [h3] at h2
theorem torn_not (L : List Nat) (hL : L.length = 32) (hb : ∀ x ∈ L, x < 256) (q y : Nat) (hq : q < (pad (sealBy L)).length) (hy : y < 256) (hy0 : y ≠ 0) : sealedB ((pad (sealBy L)).set q ((pad (sealBy L))[q] ^^^ y)) 36 = false := by
  have hs : (sealBy L).length = 36 := by rw [seal_len, hL]
  have hp : (pad (sealBy L)).length = 64 := pad_length _ (by omega)
  have hlt := padl_lt _ (seal_lt L hb)
  rw [Bool.eq_false_iff]
  intro h
  have hx : (pad (sealBy L))[q] < 256 := hlt _ (List.getElem_mem hq)
  obtain ⟨h1, h2⟩ := sealedB_run (by omega) (set_lt8 hlt q _ (xor_lt8 hx hy)) h
  by_cases hq36 : q < 36
  · have e1 : ((pad (sealBy L)).set q ((pad (sealBy L))[q] ^^^ y)).take 36 = (sealBy L).set q ((sealBy L)[q]'(by omega) ^^^ y) := by
      rw [List.take_set]
      have e2 : (pad (sealBy L)).take 36 = sealBy L := by unfold pad; exact List.take_left' hs
      have e3 : (pad (sealBy L))[q] = (sealBy L)[q]'(by omega) := pad_get_l _ _ _ _
      rw [e2, e3]
    rw [e1] at h2
    have h3 : Crc.run 4294967295 (sealBy L) = Crc.st 32 4294967295 := Crc.run_sealed L hb
    exact Crc.told (s := sealBy L) (s' := (sealBy L).set q ((sealBy L)[q]'(by omega) ^^^ y)) (bits := y) (at_ := 8 * q) (by rw [List.length_set]) (Crc.big_xor _ _ _ _) (by omega) hy0 (by omega) (h2.trans h3.symm)
  · unfold zerosB at h1
    rw [List.all_eq_true] at h1
    have e3 : (pad (sealBy L))[q] = 0 := pad_get_r _ _ (by omega) _
    have := h1 ((pad (sealBy L))[q] ^^^ y) (by
      rw [List.mem_iff_getElem]
      refine ⟨q - 36, by rw [List.length_drop, List.length_set]; omega, ?_⟩
      rw [List.getElem_drop, List.getElem_set]
      rw [if_pos (by omega)])
    rw [e3, Nat.zero_xor, beq_iff_eq] at this
    exact hy0 this
end Go.Proofs.Ytmcofmidpedkiaa
