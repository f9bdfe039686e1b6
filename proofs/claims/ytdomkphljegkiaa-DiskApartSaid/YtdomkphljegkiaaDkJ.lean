/-
  disk.lists, Copy.
-/
import Derived.Test.YtdomkphljegkiaaDkI
namespace Go.Proofs.Ytdomkphljegkiaa
open Go.RowKit Go.Maps

theorem upC_self (C : Nat → List (List Nat)) (x : Nat) : upC C x (C x) = C := by
  funext y
  unfold upC
  split
  · rename_i h; rw [h]
  · rfl
theorem upd_fC2 (C : Nat → List (List Nat)) (V : Nat → Value) (x : Nat) (hx : x < 34) (hC : C x ≠ []) (v : Value) : upd (fC C V) (.int .i64 (x : Int)) v = fC C (fun y => if y = x then v else V y) := by
  have := upd_fC C V x hx (C x) hC v
  rwa [upC_self] at this
/-- The rows that have been copied. -/
def Copied (w wr : World) (C : Nat → List (List Nat)) (V : Nat → Value) (p : Nat → Bool) : Prop :=
  (∀ x, x < 34 → C x ≠ [] → p x = true → Row wr w.heap.size (V x) (C x) ∧ ∃ b, (V x).ownBlock = some b) ∧
  (∀ x y, x < 34 → y < 34 → x ≠ y → C x ≠ [] → C y ≠ [] → p x = true → p y = true → (V x).ownBlock ≠ (V y).ownBlock)
theorem row_lt {w : World} {B : Nat} {v : Value} {L : List (List Nat)} (h : Row w B v L) {b : Nat} (hb : v.ownBlock = some b) : b < w.heap.size ∧ B ≤ b ∧ ∃ cur, w.heap[b]? = some (.cells cur 27 (0, 0)) := by
  obtain ⟨sl, h1, _⟩ := h
  obtain ⟨cur, h2, h3⟩ := own_type h1 hb
  exact ⟨(Array.getElem?_eq_some_iff.1 h2).1, h3, cur, h2⟩

section
variable {w : World} {B : Nat} {O : Nat → Prop} {g : Nat} {dur : List Nat} {C : Nat → List (List Nat)} {down : Bool}
/-- A copy of the cache: all its own blocks are new. -/
def ListsPost (w : World) (C : Nat → List (List Nat)) (e : Ending) (w' : World) : Prop := ∃ m' V', e = .returned (.map (some m')) ∧ w.heap.size ≤ m' ∧ Mp Try.prog 3 w' m' (fC C V') ∧ Copied w w' C V' (fun _ => true) ∧ Grows w w'
set_option maxHeartbeats 2000000 in
theorem lists_ok (h : Dk w B O g dur C down) (hC : ∀ x, x < 34 → (C x).length ≤ 1000000) : Calls Try.prog 20 #[.pointer (some ⟨g, 0, none⟩)] w (ListsPost w C) := by
  obtain ⟨m, V, h1, h2, h3, h4, h5, h6, h7, h8⟩ := h
  have hcA := (dk_cells h1 h2).1
  have hgl := h1.lt
  have hml := h5.lt
  obtain ⟨es, clock, hbk⟩ := h5.block
  have HBK := Lib.hid hbk
  have HA0 := Lib.hid hcA
  have H5 := Lib.hid h5
  have H6 := Lib.hid h6
  have HC := Lib.hid hC
  have HM0 := Lib.hid (h5.clone hbk)
  clear h1 h2 h5 h6 h7 h8 hC hbk
  have hcB := (((Grows.refl w).alloc (.map es clock)).cell g 2176 hgl).trans HA0.out
  go_enter Try.func20, Try.ntmps20
  go_wp2_with (first | (go_at_call 22; refine (mclone_any m es clock _ HBK.out).mono ?_; rintro e w' ⟨rfl, rfl⟩) | (at_range; refine wpList_range_mp _ rfl _ 43 rfl 3 48 keyed Try.underlying43 m (fC C V) rfl (H5.out.grows ((Grows.refl _).alloc _)) ?_; intro w0 cnt0 hrg0 hg0 hs0))
  go_frame
  rw [World.size_alloc] at hrg0 ⊢
  have HRG := Lib.hid hrg0
  have HG0 := Lib.hid (((Grows.refl w).alloc (.map es clock)).trans hg0)
  have HM1 := Lib.hid (HM0.out.grows hg0)
  clear hrg0 hg0 hs0 hcA hcB
  go_loopg [4] cnt0 (fun gh _ wr => ∃ left V', Rg Try.prog 3 wr m (w.heap.size + 1) (fC C V) left gh ∧ Mp Try.prog 3 wr w.heap.size (fC C V') ∧ Copied w wr C V' (fun x => !left (.int .i64 (x : Int))) ∧ Grows w wr)
  case atStart =>
    refine ⟨_, V, HRG.out, HM1.out, ⟨fun x hx hc hp => ?_, fun x y hx _ _ hc _ hp => ?_⟩, HG0.out⟩
    · dsimp only at hp; rw [fC_at C V x hx, if_neg hc] at hp; cases hp
    · dsimp only at hp; rw [fC_at C V x hx, if_neg hc] at hp; cases hp
  case round =>
    obtain ⟨left, V', hrg, hm, hcp, hgr⟩ := hrel
    have HRG1 := Lib.hid hrg
    have HM := Lib.hid hm
    have HCP := Lib.hid hcp
    have HGR := Lib.hid hgr
    clear hrg hm hcp hgr
    go_wp2_with (at_next; refine wpList_next_mp2 _ rfl (.tmp 15) rfl 3 keyed (fun p : Nat × Nat × Nat => .int .i64 (p.1 : Int)) (mkR C) (fun p => .int .i64 (p.1 : Int)) (fun p => p.1 < 34 ∧ C p.1 ≠ [] ∧ V p.1 = mkR C p) m (w.heap.size + 1) (fC C V) left gk (fC_shape H6.out) rfl HRG1.out ?done ?more)
    case done =>
      intro hl0
      have HE : Hid (Copied w wr C V' (fun _ => true)) := ⟨fun x hx hc _ => HCP.out.1 x hx hc (by simp [hl0]), fun x y hx hy hne hc hd _ _ => HCP.out.2 x y hx hy hne hc hd (by simp [hl0]) (by simp [hl0])⟩
      clear hl0
      go_wp2_with fail
      go_ret
      exact ⟨_, V', rfl, Nat.le_refl _, HM.out, HE.out, HGR.out⟩
    case more =>
      intro n gb cp w1 cnt1 hn hc hV hlk hrg1 hlt hg1 hs1 hen
      obtain ⟨⟨sl, r1, r2⟩, _⟩ := H6.out n hn hc
      have HGR1 : Hid (Grows w w1) := HGR.out.grown hg1 (fun j e => by cases e; omega)
      have HRG2 := Lib.hid hrg1
      have hne0 : (w.heap.size + 1) ≠ w.heap.size := by omega
      have HM2 : Hid (Mp Try.prog 3 w1 w.heap.size (fC C V')) := HM.out.same (hg1.block _ HM.out.lt (fun e => by injection e with e; omega))
      have hiter : ∀ (b : Nat) (cs : Array Value) (t : TypeId) (fr : Nat × Nat), wr.heap[b]? = some (Obj.cells cs t fr) → b ≠ w.heap.size + 1 := fun b cs t fr hb e => by
        obtain ⟨D, ⟨_, _, _, _, _, _, _, _, _, u4, _⟩, _⟩ := HRG1.out
        rw [← e, hb] at u4
        cases u4
      have HCP2 : Hid (Copied w w1 C V' (fun x => !left (.int .i64 (x : Int)))) := by
        refine ⟨fun x hx hcx hp => ?_, HCP.out.2⟩
        obtain ⟨q1, b, q2⟩ := HCP.out.1 x hx hcx hp
        refine ⟨q1.same (fun b' hb' => ?_) (fun b' hb' hcs => ?_), b, q2⟩
        · obtain ⟨u1, u2, cur, u3⟩ := row_lt q1 hb'
          exact hg1.block b' u1 (fun e => hiter b' _ _ _ u3 (by injection e))
        · obtain ⟨cs, hcs⟩ := hcs
          exact hg1.block b' hb' (fun e => hiter b' _ _ _ hcs (by injection e))
      clear hiter
      have hV2 : V n = .slice (some ⟨gb, 0, none⟩) (C n).length cp := hV
      rw [hV2] at r1
      have HRS : Hid (Rd w1 (some ⟨gb, 0, none⟩) sl) := (Rd.own r1).grows HGR1.out
      have HSL : Hid (∀ u ∈ sl, u.oneCell' = true) := fun u hu => by
        obtain ⟨i, hi⟩ := List.getElem?_of_mem hu
        have hil : i < sl.length := (List.getElem?_eq_some_iff.1 hi).1
        have hil2 : i < (C n).length := by have := r1.1; omega
        obtain ⟨s, q1, b, rfl, _⟩ := r2 i _ (List.getElem?_eq_getElem hil2)
        rw [q1] at hi
        cases hi
        rfl
      have hlen : sl.length = (C n).length := by have := r1.1; omega
      have hcl := HC.out n hn
      have HCL : Hid (∀ W, Rd W (some ⟨gb, 0, none⟩) sl → Calls Try.prog 23 #[.slice (some ⟨gb, 0, none⟩) (C n).length cp] W (RetNew W 27 1 (C n).length sl)) := fun W hW => clones_any sl _ hlen HSL.out _ cp W hW hcl
      have HR2 := Lib.hid r2
      unfold mkR at hen
      dsimp only at hen
      have hcp : 0 < (C n).length := List.length_pos_iff.2 hc
      have HFIN : Hid (∀ v w2 w3, w2.ownsRow w1.heap.size 27 1 v (C n).length sl → Grows w1 w2 → Mp Try.prog 3 w3 w.heap.size (upd (fC C V') (.int .i64 (n : Int)) v) → w2.mapTurned w3 w.heap.size →
          ∃ left' V'', Rg Try.prog 3 w3 m (w.heap.size + 1) (fC C V) left' cnt1 ∧ Mp Try.prog 3 w3 w.heap.size (fC C V'') ∧ Copied w w3 C V'' (fun x => !left' (.int .i64 (x : Int))) ∧ Grows w w3) := fun v w2 w3 a1 a2 a3 a4 => by
        have g3 := a4.grown
        have hw1 : w.heap.size ≤ w1.heap.size := HGR1.out.size
        have hrg2 := HRG2.out.grows a2
        have hmm : m ≠ w.heap.size := by omega
        have hG3 : Grows w w3 := (HGR1.out.trans a2).grown g3 (fun j e => by cases e; exact Nat.le_refl _)
        obtain ⟨esm, clm, hmb⟩ := (HM2.out.grows a2).block
        have keepc : ∀ (b : Nat) (cs : Array Value) (t : TypeId), w2.heap[b]? = some (Obj.cells cs t (0, 0)) → w3.heap[b]? = w2.heap[b]? := fun b cs t hb => g3.block b (Array.getElem?_eq_some_iff.1 hb).1 (fun e => by
          injection e with e
          rw [e, hmb] at hb
          cases hb)
        have hrow3 : Row w3 w.heap.size v (C n) := by
          have : Row w2 w.heap.size v (C n) := ⟨sl, own_lower a1 hw1, fun i l hl => by
            obtain ⟨s, q1, q2⟩ := HR2.out i l hl
            exact ⟨s, q1, q2.same fun b hb _ => (HGR1.out.trans a2).block b hb⟩⟩
          refine this.same (fun b hb => ?_) (fun b _ ⟨cs, hcs⟩ => keepc b cs _ hcs)
          obtain ⟨_, _, cur, hcur⟩ := row_lt this hb
          exact keepc b cur _ hcur
        obtain ⟨gv, capv, hv, hvb, _⟩ := own_form a1 hcp
        have hold : ∀ x, x < 34 → C x ≠ [] → left (.int .i64 (x : Int)) = false → Row w3 w.heap.size (V' x) (C x) ∧ ∃ b, (V' x).ownBlock = some b ∧ b < w1.heap.size := fun x hx hcx hp => by
          obtain ⟨q1, b, q2⟩ := HCP2.out.1 x hx hcx (by simp [hp])
          have q3 := q1.grows a2
          refine ⟨q3.same (fun b' hb' => ?_) (fun b' _ ⟨cs, hcs⟩ => keepc b' cs _ hcs), b, q2, (row_lt q1 q2).1⟩
          obtain ⟨_, _, cur, hcur⟩ := row_lt q3 hb'
          exact keepc b' cur _ hcur
        refine ⟨_, _, hrg2.same (g3.block m hrg2.mp.lt (fun e => hmm (by injection e))) (g3.block _ hrg2.lt (fun e => hne0 (by injection e))), by rw [← upd_fC2 C V' n hn hc v]; exact a3, ⟨fun x hx hcx hp => ?_, fun x y hx hy hxy hcx hcy hpx hpy => ?_⟩, hG3⟩
        · by_cases e : x = n
          · subst e
            simp only [if_true]
            exact ⟨hrow3, gv, by rw [hv]; rfl⟩
          · simp only [if_neg e]
            dsimp only at hp
            rw [sameKey_ne (fun h => e (by injection h with _ h; omega))] at hp
            obtain ⟨q1, b, q2, _⟩ := hold x hx hcx (by simpa using hp)
            exact ⟨q1, b, q2⟩
        · have aux : ∀ x, x < 34 → C x ≠ [] → x ≠ n → (!(left (.int .i64 (x : Int)) && !(Lit.int .i64 (x : Int)).sameKey (.int .i64 (n : Int)))) = true → left (.int .i64 (x : Int)) = false := fun x _ _ e hp => by
            rw [sameKey_ne (fun h => e (by injection h with _ h; omega))] at hp
            simpa using hp
          by_cases e : x = n
          · subst e
            have e' : y ≠ x := Ne.symm hxy
            simp only [if_true, if_neg e']
            obtain ⟨_, b, q2, q3⟩ := hold y hy hcy (aux y hy hcy e' hpy)
            rw [hv, q2]
            intro h
            injection h with h
            have : gv = b := h
            omega
          · by_cases e' : y = n
            · subst e'
              simp only [if_true, if_neg e]
              obtain ⟨_, b, q2, q3⟩ := hold x hx hcx (aux x hx hcx e hpx)
              rw [hv, q2]
              intro h
              injection h with h
              have : b = gv := h
              omega
            · simp only [if_neg e, if_neg e']
              exact HCP2.out.2 x y hx hy hxy hcx hcy (by simp [aux x hx hcx e hpx]) (by simp [aux y hy hcy e' hpy])
      clear hV hV2 hrg1 hg1 hlk r1 r2 hlen
      generalize (C n).length = len at *
      go_wp2_with (first | (go_at_call 23; refine (HCL.out _ HRS.out).mono ?_; rintro e w2 ⟨v, rfl, hN⟩; have HN := Lib.hid hN; clear hN) | (at_mapUpdate; refine wpList_mapUpdate_mp _ rfl _ _ _ 43 rfl 3 48 keyed Try.underlying43 w.heap.size (fC C V') rfl (HM2.out.grows HN.out.2) keys34 fC_mem (by decide) _ _ _ rfl rfl (key_at n hn) ?_; intro w3 hm3 ht3; have HM3 := Lib.hid hm3; have HT3 := Lib.hid ht3; clear hm3 ht3))
      go_frame
      go_roundg cnt1
      case measure => omega
      case rel => exact HFIN.out _ _ _ HN.out.1 HN.out.2 HM3.out HT3.out

/-- The cells of a disk, built part by part. -/
theorem build_parts (dur : List Nat) (hl : dur.length = 2176) : ∃ Z F : List Value, (∀ W, (zeroValue 47).run Try.prog W = .ok (.agg Z.toArray) W) ∧ Z.length = 2178 ∧ F.length = 2178 ∧ List.foldl (fun (cs : Array Value) (x : Value × Nat) => cs.setIfInBounds x.2 x.1) Z.toArray (bys dur).zipIdx = F.toArray ∧ ∀ m d, (F.set 2176 (.map (some m))).set 2177 (.bool d) = dkc dur m d := by
  have hbl := bys_length dur
  rw [hl] at hbl
  refine ⟨zdk, bys dur ++ [.map none, .bool false], zdk_run, zdk_len, by simp [hbl], ?_, fun m d => ?_⟩
  · have e1 := fold_set (bys dur) 0 zdk (by rw [zdk_len, hbl]; omega)
    have e2 : spl zdk 0 (bys dur) = bys dur ++ [.map none, .bool false] := by
      unfold spl zdk
      have := bys_length zer
      rw [zer_length] at this
      rw [List.take_zero, List.nil_append, Nat.zero_add, List.drop_left' (by rw [this, hbl])]
    rw [e2] at e1
    simpa only [Nat.zero_add] using e1
  · unfold dkc
    simp [hbl, List.set_append_right]
def CopyPost (w : World) (dur : List Nat) (C : Nat → List (List Nat)) (down : Bool) (e : Ending) (w' : World) : Prop := ∃ g' O', e = .returned (.pointer (some ⟨g', 0, none⟩)) ∧ Dk w' w.heap.size O' g' dur C down ∧ Grows w w'
set_option maxHeartbeats 2000000 in
theorem copy_ok (h : Dk w B O g dur C down) (hC : ∀ x, x < 34 → (C x).length ≤ 1000000) : Calls Try.prog 14 #[.pointer (some ⟨g, 0, none⟩)] w (CopyPost w dur C down) := by
  have HL : Hid (∀ W, Grows w W → Calls Try.prog 20 #[.pointer (some ⟨g, 0, none⟩)] W (ListsPost W C)) := fun W hW => lists_ok (h.grows hW) hC
  have hlen := h.len
  obtain ⟨m, V, h1, h2, h3, h4, h5, h6, h7, h8⟩ := h
  have hcB := (dk_cells h1 h2).2
  have hgl := h1.lt
  have hrg : w.rangeAt g 0 (bys dur) := fun j v hv => by
    rw [h1.cell, Nat.zero_add, List.getElem?_toArray, dkc, List.getElem?_append_left (List.getElem?_eq_some_iff.1 hv).1]
    exact hv
  have hu := Try.underlying45
  have hbl := bys_length dur
  rw [hlen] at hbl
  have hi : (Try.prog.info? 45).map (·.size) = some (bys dur).length := by rw [hbl]; kernel_rfl
  have HKP : Hid (∀ W, Grows w W → W.rangeAt g 0 (bys dur) ∧ W.cell? ⟨g, 2177, none⟩ = some (.bool down)) := fun W hW => ⟨fun j v hv => (hW.cell g _ hgl).trans (hrg j v hv), (hW.cell g _ hgl).trans hcB⟩
  obtain ⟨Z, F, hz, hzl, hFl, hfo, hF⟩ := build_parts dur hlen
  have HF := Lib.hid hF
  have HLEN := Lib.hid hlen
  have hz1 : ¬ Z.length < 2176 := by omega
  have hz2 : ¬ F.length < 2177 := by omega
  have hz3 : ¬ F.length < 2178 := by omega
  clear h1 h2 h3 h4 h5 h6 h7 h8 hrg hcB hF hlen
  have hgd : Grows w w.drew := (Grows.refl _).drew
  have hS0 := HKP.out _ hgd
  go_enter Try.func14, Try.ntmps14
  go_wp2_with fail
  go_region_held3 (fun W => W.rangeAt g 0 (bys dur) ∧ W.cell? ⟨g, 2177, none⟩ = some (.bool down)) (first | exact hS0 | assumption | exact HKP.out _ ((hgd.trans HG2.out).alloc _)) (first
    | (go_at_call 20; refine (HL.out _ hgd).mono ?_; rintro e w2 ⟨m2, V2, rfl, hm2, hM2, hC2, hG2⟩; have hk2 := HKP.out _ (hgd.trans hG2); have HM2 := Lib.hid hM2; have HC2 := Lib.hid hC2; have HG2 := Lib.hid hG2; clear hM2 hC2 hG2))
  go_wp2_with fail
  go_ret
  refine ⟨w2.heap.size, fun i => w.heap.size ≤ i ∧ i < w2.heap.size + 1, rfl, ⟨m2, V2, ?_, HLEN.out, ?_, ?_, HM2.out.grows ((Grows.refl _).alloc _), fun x hx hc => ?_, fun x y hx hy hne hc hd => HC2.out.2 x y hx hy hne hc hd rfl rfl, fun i hi => ?_⟩, (hgd.trans HG2.out).alloc _⟩
  · rw [← HF.out]
    exact At.new _ _ _
  · have := (hgd.trans HG2.out).size
    omega
  · have h1 : w.heap.size ≤ m2 := hm2
    have h2 := HM2.out.lt
    omega
  · obtain ⟨q1, b, q2⟩ := HC2.out.1 x hx hc rfl
    have q3 := row_lt q1 q2
    have q4 : w.heap.size ≤ b := q3.2.1
    exact ⟨q1.grows ((Grows.refl _).alloc _), b, q2, q4, by have := q3.1; omega⟩
  · simp
    omega
end
end Go.Proofs.Ytdomkphljegkiaa
