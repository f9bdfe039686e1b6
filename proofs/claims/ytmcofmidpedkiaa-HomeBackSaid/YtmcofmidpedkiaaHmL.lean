/-
  home.read of a superblock.
-/
import Derived.Test.YtmcofmidpedkiaaHmK
import Derived.Test.YtmcofmidpedkiaaHmF
namespace Go.Proofs.Ytmcofmidpedkiaa
open Go.RowKit Go.Maps

/-- A number of a body. -/
theorem num_at (F1 : List (Nat × Nat)) (x k : Nat) (F2 : List (Nat × Nat)) (h : x < 2 ^ (8 * k)) : num (((bodyOf (F1 ++ (x, k) :: F2)).drop (bodyOf F1).length).take k) = x := by
  have h1 : bodyOf (F1 ++ (x, k) :: F2) = bodyOf F1 ++ (digits x k ++ bodyOf F2) := by
    rw [body_append]
    simp [bodyOf]
  rw [h1, List.drop_left, List.take_left' (digits_length x k), num_digits, Nat.mod_eq_of_lt h]

theorem take_any (l : List Nat) (hl : l.length = 27) (hb : ∀ x ∈ l, x < 256) (a : Option Addr) (c at_ k x : Nat) (h1 : 1 ≤ k) (h6 : k ≤ 6) (hat : at_ + k ≤ 27) (hx : num ((l.drop at_).take k) = x) (w : World) (gb ga : Nat) (hgb : At w gb 28 #[.slice a 27 c]) (hga : At w ga 3 #[.int .i64 at_]) (hr : Rd w a (bys l)) :
    Calls Try.prog 39 #[.int .i64 k, .pointer (some ⟨gb, 0, none⟩), .pointer (some ⟨ga, 0, none⟩)] w fun e w' => e = .returned (.int .i64 x) ∧ w.setCell ⟨ga, 0, none⟩ (.int .i64 ((at_ : Int) + (k : Int))) = w' := by
  have HG := Lib.hid (get_num l 27 hl a c at_ k w hb hr h1 h6 hat (by omega))
  rw [hx] at HG
  have c1 := (hgb.cell 0).trans (show _ = some (.slice a 27 c) from rfl)
  have c2 := (hga.cell 0).trans (show _ = some (.int .i64 at_) from rfl)
  have f2 := hga.frozen 0
  have hb1 := hgb.lt
  have hb2 := hga.lt
  clear hgb hga hr hx hb hl
  go_enter Try.func39, Try.ntmps39
  go_wp2_with fail
  refine HG.out.mono ?_
  rintro e w2 ⟨rfl, rfl⟩
  go_wp2_with fail
  go_ret
  exact ⟨rfl, rfl⟩

/-- How far read is. -/
structure RS (w2 : World) (gb ga gs : Nat) (a : Option Addr) (c at_ : Nat) (cs : List Int) (W : World) : Prop where
  lb : w2.heap.size ≤ gb
  la : w2.heap.size ≤ ga
  ls : w2.heap.size ≤ gs
  ba : gb ≠ ga
  bs : gb ≠ gs
  sa : ga ≠ gs
  gr : Grows w2 W
  ab : At W gb 28 #[.slice a 27 c]
  aa : At W ga 3 #[.int .i64 at_]
  ac : At W gs 39 (ints cs).toArray
section
variable {w2 : World} {gb ga gs : Nat} {a : Option Addr} {c at_ : Nat} {cs : List Int} {W : World}
theorem RS.take (h : RS w2 gb ga gs a c at_ cs W) (k : Nat) : RS w2 gb ga gs a c (at_ + k) cs (W.setCell ⟨ga, 0, none⟩ (.int .i64 ((at_ : Int) + (k : Int)))) where
  lb := h.lb
  la := h.la
  ls := h.ls
  ba := h.ba
  bs := h.bs
  sa := h.sa
  gr := h.gr.setCell (p := ⟨ga, 0, none⟩) h.la _
  ab := h.ab.far (p := ⟨ga, 0, none⟩) h.ba _
  aa := by
    have := h.aa.set 0 (.int .i64 ((at_ : Int) + (k : Int)))
    rw [show ((at_ + k : Nat) : Int) = (at_ : Int) + (k : Int) by omega]
    exact this
  ac := h.ac.far (p := ⟨ga, 0, none⟩) (Ne.symm h.sa) _
theorem ints_set (cs : List Int) (j : Nat) (v : Int) : (ints cs).toArray.setIfInBounds j (.int .i64 v) = (ints (cs.set j v)).toArray := by
  unfold ints
  rw [List.map_set, List.setIfInBounds_toArray]
theorem RS.put (h : RS w2 gb ga gs a c at_ cs W) (j : Nat) (v : Int) : RS w2 gb ga gs a c at_ (cs.set j v) (W.setCell ⟨gs, j, none⟩ (.int .i64 v)) where
  lb := h.lb
  la := h.la
  ls := h.ls
  ba := h.ba
  bs := h.bs
  sa := h.sa
  gr := h.gr.setCell (p := ⟨gs, j, none⟩) h.ls _
  ab := h.ab.far (p := ⟨gs, j, none⟩) h.bs _
  aa := h.aa.far (p := ⟨gs, j, none⟩) h.sa _
  ac := by
    have := h.ac.set j (.int .i64 v)
    rwa [ints_set] at this
theorem RS.cell (h : RS w2 gb ga gs a c at_ cs W) (j : Nat) (v : Int) (hj : cs[j]? = some v) : W.cell? ⟨gs, j, none⟩ = some (.int .i64 v) := by
  rw [h.ac.cell j]
  unfold ints
  rw [List.getElem?_toArray, List.getElem?_map, hj]
  rfl
end
theorem sealed_pad (D : List Nat) (s : Nat) (hs : D.length + 4 = s) (h64 : s ≤ 64) : sealedB (pad (sealBy D)) s = true := by
  have hl : (sealBy D).length = s := by rw [seal_len, hs]
  have h1 : (pad (sealBy D)).drop s = List.replicate (64 - s) 0 := by unfold pad; rw [List.drop_left' hl, hl]
  have h2 : (pad (sealBy D)).take s = sealBy D := by unfold pad; exact List.take_left' hl
  have h3 : (pad (sealBy D)).take (s - 4) = D := by
    have : (pad (sealBy D)).take (s - 4) = ((pad (sealBy D)).take s).take (s - 4) := by rw [List.take_take, Nat.min_eq_left (by omega)]
    rw [this, h2]
    exact List.take_left' (by omega)
  unfold sealedB
  rw [h1, h2, h3, zerosB_rep, Bool.true_and, decide_eq_true_eq]
  exact List.drop_left' (by omega)
theorem take_pad (D : List Nat) : (pad (sealBy D)).take D.length = D := by
  unfold pad sealBy
  rw [List.append_assoc]
  exact List.take_left' rfl
theorem le4_lt' (s : Nat) : ∀ x ∈ Crc.le4 s, x < 256 := by
  intro x hx
  simp only [Crc.le4, List.mem_cons, List.not_mem_nil, or_false] at hx
  omega
theorem padseal_lt (D : List Nat) (hb : ∀ x ∈ D, x < 256) : ∀ x ∈ pad (sealBy D), x < 256 := by
  intro x hx
  unfold pad sealBy at hx
  rcases List.mem_append.1 hx with h | h
  · rcases List.mem_append.1 h with h | h
    · exact hb x h
    · exact le4_lt' _ x h
  · rw [List.eq_of_mem_replicate h]; omega
theorem fits_lt {x k : Nat} (h : fitsB x k = true) : x < 2 ^ (8 * k) := by
  have h1 := ((fitsB_iff _ _).1 h).2.2.2
  rw [Int.toNat_natCast] at h1
  exact_mod_cast h1
theorem body_ones (M : List Nat) : (bodyOf (M.map fun z => (z, 1))).length = M.length := by
  induction M with
  | nil => rfl
  | cons x xs ih =>
    have : bodyOf ((x :: xs).map fun z => (z, 1)) = digits x 1 ++ bodyOf (xs.map fun z => (z, 1)) := by simp [bodyOf]
    rw [this, List.length_append, ih, digits_length, List.length_cons]
    omega
theorem num_m (n t u i b : Nat) (M : List Nat) (k : Nat) (hk : k < M.length) (hf : ∀ p ∈ fldN n t u i b M, fitsB p.1 p.2 = true) : num (((bodyOf (fldN n t u i b M)).drop (19 + k)).take 1) = M.getD k 0 := by
  have e : fldN n t u i b M = (([(n, 6), (t, 6), (u, 1), (i, 3), (b, 3)] ++ (M.take k).map fun z => (z, 1)) ++ (M[k], 1) :: (M.drop (k + 1)).map fun z => (z, 1)) := by
    unfold fldN
    conv => lhs; rw [← List.take_append_drop k M, List.drop_eq_getElem_cons hk]
    rw [List.map_append, List.map_cons, List.append_assoc]
  have e2 : (bodyOf ([(n, 6), (t, 6), (u, 1), (i, 3), (b, 3)] ++ (M.take k).map fun z => (z, 1))).length = 19 + k := by
    rw [body_append, List.length_append, body_ones, List.length_take, Nat.min_eq_left (by omega)]
    rfl
  have hlt : M[k] < 2 ^ (8 * 1) := fits_lt (hf (M[k], 1) (by rw [e]; simp))
  have := num_at ([(n, 6), (t, 6), (u, 1), (i, 3), (b, 3)] ++ (M.take k).map fun z => (z, 1)) M[k] 1 ((M.drop (k + 1)).map fun z => (z, 1)) hlt
  rw [← e, e2] at this
  rw [this, List.getD_eq_getElem?_getD, List.getElem?_eq_getElem hk]
  rfl

def cst (M : List Nat) : List Int := M.map fun (z : Nat) => (z : Int)
/-- What read has, after k of the map. -/
def sofM (n t u i b : Nat) (M : List Nat) (k : Nat) : List Int := [(n : Int), t, u, i, b] ++ (cst (M.take k) ++ List.replicate (8 - k) 0)
theorem sofM_at (n t u i b : Nat) (M : List Nat) (k : Nat) (hM : M.length = 8) (hk : k < 8) : (sofM n t u i b M k)[5 + k]? = some 0 := by
  unfold sofM cst
  rw [List.getElem?_append_right (by simp), List.getElem?_append_right (by simp; omega), List.getElem?_replicate, if_pos (by simp; omega)]
theorem sofM_set (n t u i b : Nat) (M : List Nat) (k : Nat) (hM : M.length = 8) (hk : k < 8) : (sofM n t u i b M k).set (5 + k) ((M.getD k 0 : Nat) : Int) = sofM n t u i b M (k + 1) := by
  unfold sofM
  have h1 : (cst (M.take k)).length = k := by simp [cst]; omega
  have h2 : (List.replicate (8 - k) (0 : Int)).set 0 ((M.getD k 0 : Nat) : Int) = ((M.getD k 0 : Nat) : Int) :: List.replicate (8 - (k + 1)) 0 := by
    rw [show 8 - k = (8 - (k + 1)) + 1 by omega, List.replicate_succ]
    rfl
  have h3 : cst (M.take (k + 1)) = cst (M.take k) ++ [((M.getD k 0 : Nat) : Int)] := by
    unfold cst
    rw [List.take_succ_eq_append_getElem (show k < M.length by omega), List.map_append, List.getD_eq_getElem?_getD, List.getElem?_eq_getElem (show k < M.length by omega)]
    rfl
  rw [List.set_append_right _ _ (by simp), List.set_append_right _ _ (by rw [h1]; simp), h1, h3, List.append_assoc, List.singleton_append, ← h2]
  congr 3
  simp
theorem sofM_all (n t u i b : Nat) (M : List Nat) (hM : M.length = 8) : sofM n t u i b M 8 = [(n : Int), t, u, i, b] ++ cst M := by
  unfold sofM
  rw [List.take_of_length_le (by omega)]
  simp
end Go.Proofs.Ytmcofmidpedkiaa
