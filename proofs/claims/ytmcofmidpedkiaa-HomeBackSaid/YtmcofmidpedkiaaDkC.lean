/-
  disk.Write.
-/
import Derived.Test.YtmcofmidpedkiaaDkB
import Derived.Test.YtmcofmidpedkiaaCp
import Derived.Test.YtmcofmidpedkiaaStep
namespace Go.Proofs.Ytmcofmidpedkiaa
open Go.RowKit Go.Maps

/-- A sector's bytes: 64 of them. -/
def pad (l : List Nat) : List Nat := l ++ List.replicate (64 - l.length) 0
theorem pad_length (l : List Nat) (h : l.length ≤ 64) : (pad l).length = 64 := by simp [pad]; omega
/-- The cache with a list of writes at x. -/
def upC (C : Nat → List (List Nat)) (x : Nat) (L : List (List Nat)) : Nat → List (List Nat) := fun y => if y = x then L else C y
theorem upC_same (C : Nat → List (List Nat)) (x : Nat) (L : List (List Nat)) : upC C x L x = L := by simp [upC]
theorem upC_other (C : Nat → List (List Nat)) {x y : Nat} (h : y ≠ x) (L : List (List Nat)) : upC C x L y = C y := by simp [upC, h]
theorem upd_fC (C : Nat → List (List Nat)) (V : Nat → Value) (x : Nat) (hx : x < 34) (L : List (List Nat)) (hL : L ≠ []) (v : Value) : upd (fC C V) (.int .i64 (x : Int)) v = fC (upC C x L) (fun y => if y = x then v else V y) := by
  funext kl
  unfold upd
  by_cases h : kl = .int .i64 (x : Int)
  · subst h
    rw [WideAt.sameKey_self (a := .int .i64 (x : Int)) trivial, if_pos rfl, fC_at _ _ x hx, upC_same, if_neg hL, if_pos rfl]
  · rw [sameKey_ne h]
    simp only [Bool.false_eq_true, if_false]
    unfold fC
    split
    · rename_i z
      by_cases hz : 0 ≤ z
      · have hne : z.toNat ≠ x := fun e => h (by rw [← e, Int.toNat_of_nonneg hz])
        rw [upC_other C hne]
        simp only [if_neg hne]
      · rw [if_neg (by omega), if_neg (by omega)]
    · rfl

section
variable {w w4 w5 : World} {B : Nat} {O : Nat → Prop} {g m : Nat} {dur : List Nat} {C : Nat → List (List Nat)} {V : Nat → Value} {down : Bool}
theorem own_type {e : TypeId} {size n : Nat} {v : Value} {xs : List Value} (h : w.ownsRow B e size v n xs) {b : Nat} (hb : v.ownBlock = some b) : ∃ cur, w.heap[b]? = some (.cells cur e (0, 0)) ∧ B ≤ b := by
  rcases h.2 with h2 | ⟨g, cap, cur, h1, h2, h3, _⟩
  · rw [h2.1] at hb; cases hb
  · rw [h1] at hb; cases hb; exact ⟨cur, h3, h2⟩
theorem own_cell {e : TypeId} {n cap gb : Nat} {xs : List Value} (h : w.ownsRow B e 1 (.slice (some ⟨gb, 0, none⟩) n cap) n xs) {i : Nat} {v : Value} (hi : xs[i]? = some v) : w.cell? ⟨gb, i, none⟩ = some v := by
  rcases Rd.own h with h0 | ⟨b, off, e1, _, hc⟩
  · subst h0; simp at hi
  · cases e1
    have := hc i v hi
    rwa [Nat.zero_add] at this
/-- What a write comes to. -/
theorem dk_wrote (h1 : At w g 58 (dkc dur m down).toArray) (h2 : dur.length = 2176) (h3 : O g) (h4 : O m) (h5 : Mp Try.prog 3 w m (fC C V))
    (h6 : ∀ x, x < 34 → C x ≠ [] → Row w B (V x) (C x) ∧ ∃ b, (V x).ownBlock = some b ∧ O b) (h7 : ∀ x y, x < 34 → y < 34 → x ≠ y → C x ≠ [] → C y ≠ [] → (V x).ownBlock ≠ (V y).ownBlock) (h8 : ∀ i, O i → B ≤ i ∧ i < w.heap.size)
    (x : Nat) (hx : x < 34) (u : Value) (hu : u = if C x = [] then .slice none 0 0 else V x) (sl : List Value) (hsl : ∀ (i : Nat) (l : List Nat), (C x)[i]? = some l → ∃ s, sl[i]? = some s ∧ Sec w s l) (hlen : sl.length = (C x).length)
    (sv : Value) (l : List Nat) (hsv : Sec w sv l) (hu2 : w.ownsRow B 28 1 u (C x).length sl)
    (v : Value) (hown : w4.ownsRow B 28 1 v ((C x).length + 1) (sl ++ [sv])) (hgr : w.grownBy w4 u.ownBlock) (hat : v.ownBlock = u.ownBlock ∨ v.ownBlock = some w.heap.size)
    (hm5 : Mp Try.prog 3 w5 m (upd (fC C V) (.int .i64 (x : Int)) v)) (ht5 : w4.mapTurned w5 m) :
    Dk w5 B (fun i => O i ∨ v.ownBlock = some i) g dur (upC C x (C x ++ [l])) down ∧ Turns O w w5 (fun i => O i ∨ v.ownBlock = some i) := by
  have g5 := ht5.grown
  obtain ⟨esm, clm, hbm⟩ := h5.block
  have hO : ∀ b, u.ownBlock = some b → O b := fun b hb => by
    by_cases hc : C x = []
    · rw [hu, if_pos hc] at hb; cases hb
    · rw [hu, if_neg hc] at hb
      obtain ⟨b', e1, e2⟩ := (h6 x hx hc).2
      rw [e1] at hb
      cases hb
      exact e2
  -- a block that is neither the row nor the map
  have keep : ∀ b, b < w.heap.size → some b ≠ u.ownBlock → b ≠ m → w5.heap[b]? = w.heap[b]? := fun b hb hn hne =>
    (g5.block b (Nat.lt_of_lt_of_le hb hgr.size) (fun e => hne (by injection e))).trans (hgr.block b hb hn)
  have u8keep : ∀ b, b < w.heap.size → (∃ cs, w.heap[b]? = some (.cells cs 5 (0, 0))) → w5.heap[b]? = w.heap[b]? := by
    rintro b hb ⟨cs, hcs⟩
    refine keep b hb (fun e => ?_) (fun e => ?_)
    · obtain ⟨cur, hcur, _⟩ := own_type hu2 e.symm
      rw [hcs] at hcur
      injection hcur with hcur
      injection hcur with _ hcur
      exact absurd hcur (by decide)
    · subst e
      rw [hbm] at hcs
      cases hcs
  have hvb : ∀ b, v.ownBlock = some b → ∃ cur, w4.heap[b]? = some (.cells cur 28 (0, 0)) ∧ B ≤ b := fun b hb => own_type hown hb
  have hm4 : ∃ es cl, w4.heap[m]? = some (.map es cl) := by
    obtain ⟨es, cl, _, _, hh, _⟩ := ht5
    exact ⟨es, cl, hh⟩
  have hvm : ∀ b, v.ownBlock = some b → b ≠ m := by
    rintro b hb rfl
    obtain ⟨cur, hcur, _⟩ := hvb b hb
    obtain ⟨es, cl, hh⟩ := hm4
    rw [hcur] at hh
    cases hh
  have hrow5 : ∀ b, v.ownBlock = some b → w5.heap[b]? = w4.heap[b]? := fun b hb => by
    obtain ⟨cur, hcur, _⟩ := hvb b hb
    exact g5.block b (Array.getElem?_eq_some_iff.1 hcur).1 (fun e => hvm b hb (by injection e))
  refine ⟨⟨m, fun y => if y = x then v else V y, ?_, h2, .inl h3, .inl h4, ?_, ?_, ?_, ?_⟩, ⟨g5.os.trans hgr.os, g5.tape.trans hgr.tape, g5.output.trans hgr.output, Nat.le_trans hgr.size g5.size, ?_, ?_⟩⟩
  · refine (keep g h1.lt (fun e => ?_) (fun e => ?_)).trans h1
    · obtain ⟨cur, hcur, _⟩ := own_type hu2 e.symm
      unfold At at h1
      rw [h1] at hcur
      injection hcur with hcur
      injection hcur with _ hcur
      exact absurd hcur (by decide)
    · subst e
      unfold At at h1
      rw [hbm] at h1
      cases h1
  · rw [← upd_fC C V x hx _ (by simp)]
    exact hm5
  · intro y hy hc
    by_cases e : y = x
    · subst e
      simp only [if_true]
      rw [upC_same] at hc ⊢
      refine ⟨⟨sl ++ [sv], ⟨by simp [hlen], ?_⟩, fun i l' hl' => ?_⟩, ?_⟩
      · rcases hown.2 with ⟨_, r2⟩ | ⟨g', cap, cur, r1, r2, r3, r4⟩
        · omega
        · rw [List.length_append, List.length_singleton]
          exact .inr ⟨g', cap, cur, r1, r2, (hrow5 g' (by rw [r1]; rfl)).trans r3, r4⟩
      · by_cases hi : i < (C y).length
        · rw [List.getElem?_append_left hi] at hl'
          obtain ⟨s, r1, r2⟩ := hsl i l' hl'
          refine ⟨s, ?_, r2.same u8keep⟩
          rw [List.getElem?_append_left (by omega)]
          exact r1
        · rw [List.getElem?_append_right (by omega)] at hl'
          have hi0 : i - (C y).length = 0 := by
            rcases Nat.eq_zero_or_pos (i - (C y).length) with h0 | h0
            · exact h0
            · rw [List.getElem?_eq_none (by simp; omega)] at hl'; cases hl'
          rw [hi0] at hl'
          simp only [List.getElem?_cons_zero, Option.some.injEq] at hl'
          subst hl'
          refine ⟨sv, ?_, hsv.same u8keep⟩
          rw [List.getElem?_append_right (by omega), hlen, hi0]
          rfl
      · obtain ⟨g', cap, r1, _⟩ := own_form hown (by omega)
        exact ⟨g', by rw [r1]; rfl, .inr (by rw [r1]; rfl)⟩
    · rw [upC_other C e] at hc ⊢
      simp only [if_neg e]
      obtain ⟨r1, b, r2, r3⟩ := h6 y hy hc
      refine ⟨r1.same (fun b' hb' => ?_) u8keep, b, r2, .inl r3⟩
      have : b' = b := by rw [r2] at hb'; injection hb' with hb'; exact hb'.symm
      subst this
      refine keep b' (h8 b' r3).2 (fun e1 => ?_) (fun e1 => ?_)
      · by_cases hcx : C x = []
        · rw [hu, if_pos hcx] at e1; cases e1
        · rw [hu, if_neg hcx, ← r2] at e1
          exact h7 y x hy hx e hc hcx e1
      · subst e1
        obtain ⟨sl', r4, _⟩ := r1
        obtain ⟨cur, hcur, _⟩ := own_type r4 r2
        rw [hbm] at hcur
        cases hcur
  · have aux : ∀ y, y < 34 → y ≠ x → C y ≠ [] → (V y).ownBlock ≠ v.ownBlock := fun y hy e hc e1 => by
      obtain ⟨r1, b, r2, r3⟩ := h6 y hy hc
      rcases hat with e2 | e2
      · rw [e2] at e1
        by_cases hcx : C x = []
        · rw [hu, if_pos hcx, r2] at e1; cases e1
        · rw [hu, if_neg hcx] at e1
          exact h7 y x hy hx e hc hcx e1
      · rw [e2, r2] at e1
        injection e1 with e1
        have := (h8 b r3).2
        omega
    intro y z hy hz hyz hcy hcz
    by_cases e : y = x
    · subst e
      rw [upC_other C (Ne.symm hyz)] at hcz
      simp only [if_true, if_neg (Ne.symm hyz)]
      exact Ne.symm (aux z hz (Ne.symm hyz) hcz)
    · rw [upC_other C e] at hcy
      by_cases e' : z = x
      · subst e'
        simp only [if_true, if_neg e]
        exact aux y hy e hcy
      · rw [upC_other C e'] at hcz
        simp only [if_neg e, if_neg e']
        exact h7 y z hy hz hyz hcy hcz
  · rintro i (hi | hi)
    · have h9 := h8 i hi
      have h10 := hgr.size
      have h11 := g5.size
      omega
    · obtain ⟨cur, hcur, hB⟩ := hvb i hi
      have h12 := (Array.getElem?_eq_some_iff.1 hcur).1
      have h11 := g5.size
      omega
  · intro i hi ho
    refine keep i hi (fun e => ho (hO i e.symm)) (fun e => ho (e ▸ h4))
  · rintro i (hi | hi)
    · exact .inl hi
    · rcases hat with e2 | e2
      · rw [e2] at hi; exact .inl (hO i hi)
      · rw [e2] at hi; injection hi with hi; exact .inr (by omega)
end

def z64 : List Nat := List.replicate 64 0
theorem mk64 (W : World) : (Instr.makeSlice 28 (.int .i64 64) (.int .i64 64)).run Try.prog W = .ok (.slice (some ⟨W.heap.size, 0, none⟩) 64 64) (W.alloc (.cells (bys z64).toArray 5)) := by kernel_rfl
theorem u8_one : (Try.prog.info? 5).map (·.size) = some 1 := by kernel_rfl
theorem info_by : (Try.prog.info? 28).map (fun i => (i.zero, i.size, i.bytes)) = some (some (.slice none 0 0), 1, 24) := by kernel_rfl
theorem spl_pad (l : List Nat) : spl (bys z64) 0 (bys l) = bys (pad l) := by
  unfold spl pad z64
  rw [bys_append, List.take_zero, List.nil_append, bys_length, Nat.zero_add]
  congr 1
  unfold bys
  rw [List.map_replicate, List.map_replicate, List.drop_replicate]

section
variable {w : World} {B : Nat} {O : Nat → Prop} {g : Nat} {dur : List Nat} {C : Nat → List (List Nat)}
set_option maxHeartbeats 1000000 in
theorem write_ok (h : Dk w B O g dur C false) (x : Nat) (hx : x < 34) (l : List Nat) (hl : l.length ≤ 64) (a : Option Addr) (cap : Nat) (hr : Rd w a (bys l)) (hC : (C x).length ≤ 1000000) :
    Calls Try.prog 11 #[.pointer (some ⟨g, 0, none⟩), .int .i64 (x : Int), .slice a l.length cap] w fun e w' => e = .returned (.int .i64 0) ∧ ∃ O', Dk w' B O' g dur (upC C x (C x ++ [pad l])) false ∧ Turns O w w' O' := by
  have hB := Lib.hid h.base
  obtain ⟨m, V, h1, h2, h3, h4, h5, h6, h7, h8⟩ := h
  obtain ⟨u, hu⟩ : ∃ u, u = if C x = [] then .slice none 0 0 else V x := ⟨_, rfl⟩
  obtain ⟨sl, hu2, hsl⟩ : ∃ sl, w.ownsRow B 28 1 u (C x).length sl ∧ ∀ (i : Nat) (l : List Nat), (C x)[i]? = some l → ∃ s, sl[i]? = some s ∧ Sec w s l := by
    by_cases hc : C x = []
    · rw [hu, if_pos hc, hc]
      exact ⟨[], World.ownsRow_nil w B _ _, fun i l h => by simp at h⟩
    · rw [hu, if_neg hc]
      exact (h6 x hx hc).1
  have hc2 := (dk_cells h1 h2)
  have hgl := h1.lt
  have hq := fun W => run_eql_map_nil (P := Try.prog) W 54 _ _ (some m) Try.underlying54
  have hmk := mk64
  have hl0 : (l.length : Int) ≤ 64 := by omega
  have hx0 : (0 : Int) ≤ (x : Int) := by omega
  have hx1 : (x : Int) < 34 := by omega
  obtain ⟨i0, hi0, hz0, hz1, hz2⟩ := info_parts info_by
  have H1 := Lib.hid h1
  have H5 := Lib.hid h5
  have H6 := Lib.hid h6
  have H7 := Lib.hid h7
  have H8 := Lib.hid h8
  have HU := Lib.hid hu
  have HU2 := Lib.hid hu2
  have HSL := Lib.hid hsl
  have HR := Lib.hid hr
  have H2 := Lib.hid h2
  clear h1 h2 h5 h6 h7 h8 hu hu2 hsl hr
  have hcA := hc2.1
  have hcB := hc2.2
  clear hc2
  generalize hz : bys z64 = Z at *
  have HZ := Lib.hid hz
  clear hz
  go_enter Try.func11, Try.ntmps11
  go_wp2_with (first | (go_at_call 24; refine (is_yes _ _ (by omega) (by omega)).mono ?_; rintro e w' ⟨rfl, rfl⟩) | (refine wpList_copy_at rfl (.tmp 32) (.tmp 33) 28 28 rfl 5 Try.underlying28 u8_one (some ⟨w.heap.size, 0, none⟩) a 64 64 l.length cap rfl rfl w.heap.size 0 Z 5 (At.new _ _ _) (bys l) ?c1 rfl (HR.out.grows ((Grows.refl _).alloc _)) ?c2 (bys_one _) ?_))
  case c1 => rw [bys_length]; exact (Nat.min_eq_left (by omega)).symm
  case c2 => rw [bys_length, ← HZ.out, bys_length]; simp [z64]; omega
  intro w2 hat2 hgr2
  have HG2 : Hid (Grows w w2) := ((Grows.refl w).alloc _).grown hgr2 (fun k e => by cases e; exact Nat.le_refl _)
  have HS2 : Hid (At w2 w.heap.size 5 (bys (pad l)).toArray) := by
    show At _ _ _ _
    rw [← spl_pad, HZ.out]
    exact hat2
  clear hat2 hgr2
  have hc2 := (HG2.out.cell g 2176 hgl).trans hcA
  clear hcA hcB
  -- the world in which the region goes on, with the element's block and without
  have hlk : ∀ W, Grows w2 W → (Instr.lookup 54 (.map (some m)) (.int .i64 (x : Int)) false).run Try.prog W = .ok u W := fun W hW => by
    have := (H5.out.grows (HG2.out.trans hW)).look keyed Try.underlying54 (zsl W) (key_at x hx)
    rw [fC_at C V x hx] at this
    rw [this, HU.out]
    by_cases hc : C x = []
    · rw [if_pos hc, if_pos hc]; rfl
    · rw [if_neg hc, if_neg hc]; rfl
  have hl1 := hlk w2.drew (Grows.refl _).drew
  have hl2 := hlk (w2.alloc (.cells #[.slice (some ⟨w.heap.size, 0, none⟩) 64 64] 28)).drew ((Grows.refl _).alloc _).drew
  clear hlk
  obtain ⟨w3, hw3⟩ : ∃ w3, w3 = (w2.alloc (.cells #[.slice (some ⟨w.heap.size, 0, none⟩) 64 64] 28)).drew := ⟨_, rfl⟩
  have HW3 := Lib.hid hw3
  have HG3 : Hid (Grows w w3) := by show Grows w w3; rw [hw3]; exact (HG2.out.alloc _).drew
  have HO3 : Hid ((w2.alloc (.cells #[.slice (some ⟨w.heap.size, 0, none⟩) 64 64] 28)).drew.ownsRow B 28 1 u (C x).length sl) := own_grows HU2.out (HG2.out.alloc _).drew
  have HR3 : Hid (Rd (w2.alloc (.cells #[.slice (some ⟨w.heap.size, 0, none⟩) 64 64] 28)).drew (some ⟨w2.heap.size, 0, none⟩) [.slice (some ⟨w.heap.size, 0, none⟩) 64 64]) := (rd_new w2 #[.slice (some ⟨w.heap.size, 0, none⟩) 64 64] 28 (0, 0)).grows (Grows.refl _).drew
  have HS1 : Hid (∀ u ∈ [Value.slice (some ⟨w.heap.size, 0, none⟩) 64 64], u.oneCell' = true) := by intro u hu; simp at hu; subst hu; rfl
  have HB3 : Hid (B ≤ (w2.alloc (.cells #[.slice (some ⟨w.heap.size, 0, none⟩) 64 64] 28)).drew.heap.size) := by show B ≤ _; have h1 := hB.out; have h2 := HG2.out.size; simp; omega
  have H53 := (H5.out.grows HG3.out)
  have H13 := (H1.out.grows HG3.out)
  rw [hw3] at H53 H13
  have hne : u.ownBlock ≠ some m := fun e => by
    obtain ⟨cur, hcur, _⟩ := own_type HU2.out e
    obtain ⟨es, cl, hb⟩ := H5.out.block
    rw [hb] at hcur
    cases hcur
  have hneg : u.ownBlock ≠ some g := fun e => by
    obtain ⟨cur, hcur, _⟩ := own_type HU2.out e
    have h1 := H1.out
    unfold At at h1
    rw [h1] at hcur
    injection hcur with hcur
    injection hcur with _ hcur
    exact absurd hcur (by decide)
  have hgm : g ≠ m := fun e => by
    obtain ⟨es, cl, hb⟩ := H5.out.block
    have h1 := H1.out
    unfold At at h1
    rw [e, hb] at h1
    cases h1
  have HST : Hid (∀ v4 w4, (w2.alloc (.cells #[.slice (some ⟨w.heap.size, 0, none⟩) 64 64] 28)).drew.grownBy w4 u.ownBlock → ∃ w5, (Instr.mapUpdate 54 (.map (some m)) (.int .i64 (x : Int)) v4).run Try.prog w4 = .ok () w5 ∧ Mp Try.prog 3 w5 m (upd (fC C V) (.int .i64 (x : Int)) v4) ∧ w4.mapTurned w5 m) := fun v4 w4 hgr =>
    (H53.same (hgr.block m H53.lt (Ne.symm hne))).store keyed Try.underlying54 keys34 fC_mem (by decide) (key_at x hx)
  have HC4 : Hid (∀ w4, (w2.alloc (.cells #[.slice (some ⟨w.heap.size, 0, none⟩) 64 64] 28)).drew.grownBy w4 u.ownBlock → w4.cell? ⟨g, 2176, none⟩ = some (.map (some m))) := fun w4 hgr =>
    (dk_cells (show At w4 g 58 (dkc dur m false).toArray from (hgr.block g H13.lt (Ne.symm hneg)).trans H13) H2.out).1
  have HC5 : Hid (∀ w4 w5, (w2.alloc (.cells #[.slice (some ⟨w.heap.size, 0, none⟩) 64 64] 28)).drew.grownBy w4 u.ownBlock → w4.mapTurned w5 m → w5.cell? ⟨g, 2176, none⟩ = some (.map (some m))) := fun w4 w5 hgr ht =>
    (dk_cells (show At w5 g 58 (dkc dur m false).toArray from (ht.grown.block g (Nat.lt_of_lt_of_le H13.lt hgr.size) (fun e => hgm (by injection e))).trans ((hgr.block g H13.lt (Ne.symm hneg)).trans H13)) H2.out).1
  have HFIN : Hid (∀ v4 w4 w5, w4.ownsRow B 28 1 v4 ((C x).length + 1) (sl ++ [.slice (some ⟨w.heap.size, 0, none⟩) 64 64]) → (w2.alloc (.cells #[.slice (some ⟨w.heap.size, 0, none⟩) 64 64] 28)).drew.grownBy w4 u.ownBlock → (v4.ownBlock = u.ownBlock ∨ v4.ownBlock = some (w2.alloc (.cells #[.slice (some ⟨w.heap.size, 0, none⟩) 64 64] 28)).drew.heap.size) →
      Mp Try.prog 3 w5 m (upd (fC C V) (.int .i64 (x : Int)) v4) → w4.mapTurned w5 m → ∃ O', Dk w5 B O' g dur (upC C x (C x ++ [pad l])) false ∧ Turns O w w5 O') := fun v4 w4 w5 a1 a2 a3 a4 a5 => by
    have hG := (HG2.out.alloc (.cells #[.slice (some ⟨w.heap.size, 0, none⟩) 64 64] 28)).drew
    have hG' : Grows w2 (w2.alloc (.cells #[.slice (some ⟨w.heap.size, 0, none⟩) 64 64] 28)).drew := ((Grows.refl _).alloc _).drew
    have hlen : sl.length = (C x).length := by have := HU2.out.1; omega
    obtain ⟨r1, r2⟩ := dk_wrote (O := O) H13 H2.out h3 h4 H53 (fun y hy hc => ⟨(H6.out y hy hc).1.grows hG, (H6.out y hy hc).2⟩) H7.out (fun i hi => ⟨(H8.out i hi).1, Nat.lt_of_lt_of_le (H8.out i hi).2 hG.size⟩) x hx u HU.out sl
      (fun i l' hl' => by
        obtain ⟨s, q1, q2⟩ := HSL.out i l' hl'
        exact ⟨s, q1, q2.same fun b hb _ => hG.block b hb⟩) hlen _ (pad l) ⟨w.heap.size, rfl, pad_length l hl, HS2.out.grows hG'⟩ HO3.out v4 a1 a2 a3 a4 a5
    exact ⟨_, r1, r2.after hG⟩
  clear hne hneg hgm H53 H13 hw3
  go_wp2_with fail
  go_region_held3 (fun W => W.cell? ⟨g, 2176, none⟩ = some (.map (some m))) (first | assumption | go_keep) ((refine step_append_rd rfl (.tmp 45) (.tmp 47) 64 rfl B 28 i0 _ 1 24 Try.underlying64 hi0 hz0 hz1 hz2 rfl (by decide) u (C x).length sl rfl HO3.out (some ⟨w2.heap.size, 0, none⟩) 1 1 [.slice (some ⟨w.heap.size, 0, none⟩) 64 64] rfl HR3.out rfl HS1.out (by unfold maxLen; omega) (by omega) HB3.out ?_; intro v4 w4 hown4 hgr4 hat4; obtain ⟨w5, hr5, hm5, ht5⟩ := HST.out v4 w4 hgr4; have hc4 := HC4.out w4 hgr4; have hc5 := HC5.out w4 w5 hgr4 ht5; have HO4 := Lib.hid hown4; have HG4 := Lib.hid hgr4; have HA4 := Lib.hid hat4; have HM5 := Lib.hid hm5; have HT5 := Lib.hid ht5; clear hown4 hgr4 hat4 hm5 ht5))
  all_goals
    go_wp2_with fail
    go_ret
    exact ⟨rfl, HFIN.out _ _ _ HO4.out HG4.out HA4.out HM5.out HT5.out⟩
end
end Go.Proofs.Ytmcofmidpedkiaa
