/-
  disk.Flush.
-/
import Derived.Test.YtmcofmidpedkiaaDkD
namespace Go.Proofs.Ytmcofmidpedkiaa
open Go.RowKit Go.Maps

/-- What is durable once the newest writes of the sectors in p are. -/
def fl (dur : List Nat) (C : Nat → List (List Nat)) (p : Nat → Bool) : List Nat := (List.range 2176).map fun i => if p (i / 64) then ((C (i / 64)).getLast?.getD []).getD (i % 64) 0 else dur.getD i 0
theorem fl_len (dur : List Nat) (C : Nat → List (List Nat)) (p : Nat → Bool) : (fl dur C p).length = 2176 := by simp [fl]
theorem fl_get (dur : List Nat) (C : Nat → List (List Nat)) (p : Nat → Bool) (i : Nat) (h : i < 2176) : (fl dur C p)[i]? = some (if p (i / 64) then ((C (i / 64)).getLast?.getD []).getD (i % 64) 0 else dur.getD i 0) := by
  unfold fl
  rw [List.getElem?_map, List.getElem?_range h]
  rfl
theorem fl_congr (dur : List Nat) (C : Nat → List (List Nat)) {p q : Nat → Bool} (h : ∀ y, y < 34 → p y = q y) : fl dur C p = fl dur C q := by
  apply List.ext_getElem?
  intro i
  by_cases hi : i < 2176
  · rw [fl_get _ _ _ _ hi, fl_get _ _ _ _ hi, h _ (by omega)]
  · rw [List.getElem?_eq_none (by rw [fl_len]; omega), List.getElem?_eq_none (by rw [fl_len]; omega)]
theorem fl_none (dur : List Nat) (C : Nat → List (List Nat)) {p : Nat → Bool} (h : ∀ y, y < 34 → p y = false) (hl : dur.length = 2176) : fl dur C p = dur := by
  apply List.ext_getElem?
  intro i
  by_cases hi : i < 2176
  · rw [fl_get _ _ _ _ hi, h _ (by omega)]
    simp [List.getElem?_eq_getElem (show i < dur.length by omega)]
  · rw [List.getElem?_eq_none (by rw [fl_len]; omega), List.getElem?_eq_none (by omega)]
theorem fl_step (dur : List Nat) (C : Nat → List (List Nat)) (p q : Nat → Bool) (x : Nat) (hx : x < 34) (l : List Nat) (hl : l.length = 64) (hlast : (C x).getLast? = some l) (hq : ∀ y, y < 34 → q y = (p y || y == x)) : spl (fl dur C p) (x * 64) l = fl dur C q := by
  apply List.ext_getElem?
  intro i
  rw [spl_get _ _ _ (by rw [fl_len]; omega), hl]
  by_cases hi : i < 2176
  · rw [fl_get _ _ _ _ hi, fl_get _ _ _ _ hi, hq _ (by omega)]
    by_cases h1 : i < x * 64
    · have : (i / 64 == x) = false := by simp; omega
      rw [if_pos h1, this, Bool.or_false]
    · rw [if_neg h1]
      by_cases h2 : i < x * 64 + 64
      · have e : i / 64 = x := by omega
        have e2 : i % 64 = i - x * 64 := by omega
        rw [if_pos h2, e, hlast, e2]
        simp [List.getElem?_eq_getElem (show i - x * 64 < l.length by omega)]
      · have : (i / 64 == x) = false := by simp; omega
        rw [if_neg h2, this, Bool.or_false]
  · rw [if_neg (by omega), if_neg (by omega), List.getElem?_eq_none (by rw [fl_len]; omega), List.getElem?_eq_none (by rw [fl_len]; omega)]
def flushed (dur : List Nat) (C : Nat → List (List Nat)) : List Nat := fl dur C (fun y => !(C y).isEmpty)
theorem dkc_spl (dur : List Nat) (m : Nat) (down : Bool) (o : Nat) (l : List Nat) (h : o + l.length ≤ dur.length) : spl (dkc dur m down) o (bys l) = dkc (spl dur o l) m down := by
  unfold dkc
  rw [bys_spl]
  unfold spl
  rw [List.take_append_of_le_length (by rw [bys_length]; omega), List.drop_append_of_le_length (by rw [bys_length, bys_length]; omega)]
  simp

/-- A row of the cache, as the range hands it over. -/
def mkR (C : Nat → List (List Nat)) (p : Nat × Nat × Nat) : Value := .slice (some ⟨p.2.1, 0, none⟩) (C p.1).length p.2.2
theorem fC_shape {w : World} {B : Nat} {O : Nat → Prop} {C : Nat → List (List Nat)} {V : Nat → Value} (h6 : ∀ x, x < 34 → C x ≠ [] → Row w B (V x) (C x) ∧ ∃ b, (V x).ownBlock = some b ∧ O b) :
    ∀ key kl v, keyOf Try.prog 3 key = some kl → fC C V kl = some v → ∃ x : Nat × Nat × Nat, key = .int .i64 (x.1 : Int) ∧ v = mkR C x ∧ kl = .int .i64 (x.1 : Int) ∧ (x.1 < 34 ∧ C x.1 ≠ [] ∧ V x.1 = mkR C x) := by
  intro key kl v hk hf
  obtain ⟨n, hn, hc, rfl⟩ := fC_some (by rw [hf]; rfl)
  rw [fC_at C V n hn, if_neg hc] at hf
  injection hf with hf
  obtain ⟨sl, r1, _⟩ := (h6 n hn hc).1
  obtain ⟨gb, cap, r5, _⟩ := own_form r1 (List.length_pos_iff.2 hc)
  obtain ⟨x, h1, h2, _⟩ := keyOf_int_inv Try.underlying3 hk
  injection h2 with _ h2
  refine ⟨⟨n, gb, cap⟩, by rw [h1, ← h2], by rw [← hf]; exact r5, rfl, hn, hc, r5⟩
/-- The newest write of a sector. -/
theorem row_last {w : World} {B : Nat} {v : Value} {L : List (List Nat)} {gb cap : Nat} (h : Row w B v L) (hL : L ≠ []) (hv : v = .slice (some ⟨gb, 0, none⟩) L.length cap) : ∃ bs l, L.getLast? = some l ∧ l.length = 64 ∧ w.cell? ⟨gb, L.length - 1, none⟩ = some (.slice (some ⟨bs, 0, none⟩) 64 64) ∧ At w bs 5 (bys l).toArray ∧ gb < w.heap.size ∧ (∃ cur, w.heap[gb]? = some (.cells cur 28 (0, 0))) := by
  obtain ⟨sl, r1, r2⟩ := h
  have hlen : 0 < L.length := List.length_pos_iff.2 hL
  obtain ⟨l, hl⟩ : ∃ l, L[L.length - 1]? = some l := ⟨_, List.getElem?_eq_getElem (by omega)⟩
  obtain ⟨s, q1, q2⟩ := r2 _ _ hl
  obtain ⟨bs, rfl, e2, hA⟩ := q2
  rw [hv] at r1
  obtain ⟨cur, t1, _⟩ := own_type r1 (b := gb) rfl
  refine ⟨bs, l, by rw [List.getLast?_eq_getElem?]; exact hl, e2, ?_, hA, (Array.getElem?_eq_some_iff.1 t1).1, cur, t1⟩
  exact own_cell r1 q1

section
variable {w : World} {B : Nat} {O : Nat → Prop} {g : Nat} {dur : List Nat} {C : Nat → List (List Nat)}
set_option maxHeartbeats 2000000 in
theorem flush_ok (h : Dk w B O g dur C false) (hC : ∀ x, x < 34 → (C x).length ≤ 1000000) :
    Calls Try.prog 18 #[.pointer (some ⟨g, 0, none⟩)] w fun e w' => e = .returned (.int .i64 0) ∧ Dk w' B O g (flushed dur C) noC false ∧ Turns O w w' O := by
  obtain ⟨m, V, h1, h2, h3, h4, h5, h6, h7, h8⟩ := h
  have hc2 := (dk_cells h1 h2)
  have hcA := hc2.1
  have hcB := hc2.2
  have hgl := h1.lt
  have hgm : g ≠ m := fun e => by
    obtain ⟨es, cl, hb⟩ := h5.block
    unfold At at h1
    rw [e, hb] at h1
    cases h1
  have H1 := Lib.hid h1
  have H2 := Lib.hid h2
  have H5 := Lib.hid h5
  have H6 := Lib.hid h6
  have H8 := Lib.hid h8
  have HC := Lib.hid hC
  clear h1 h2 h5 h6 h8 hC hc2
  go_enter Try.func18, Try.ntmps18
  go_wp2_with (at_range; refine wpList_range_mp _ rfl _ 54 rfl 3 64 keyed Try.underlying54 m (fC C V) rfl H5.out ?_; intro w0 cnt0 hrg0 hg0 hs0)
  go_frame
  have HRG := Lib.hid hrg0
  have HG0 := Lib.hid hg0
  clear hrg0 hg0 hs0 hcA hcB
  go_loopg [3] cnt0 (fun gh _ wr => ∃ left, Rg Try.prog 3 wr m w.heap.size (fC C V) left gh ∧ At wr g 58 (dkc (fl dur C (fun y => !(C y).isEmpty && !left (.int .i64 (y : Int)))) m false).toArray ∧ w.grownBy wr (some g))
  case atStart =>
    refine ⟨_, HRG.out, ?_, ⟨HG0.out.os, HG0.out.tape, HG0.out.output, HG0.out.size, fun k hk _ => HG0.out.block k hk⟩⟩
    rw [fl_none dur C (fun y hy => ?_) H2.out]
    · exact H1.out.grows HG0.out
    · rw [fC_at C V y hy]
      by_cases hc : C y = []
      · simp [hc]
      · simp [hc]
  case round =>
    obtain ⟨left, hrg, hA, hgr⟩ := hrel
    have HRG1 := Lib.hid hrg
    have HA1 := Lib.hid hA
    have HGR := Lib.hid hgr
    clear hrg hA hgr
    go_wp2_with (at_next; refine wpList_next_mp2 _ rfl (.tmp 15) rfl 3 keyed (fun p : Nat × Nat × Nat => .int .i64 (p.1 : Int)) (mkR C) (fun p => .int .i64 (p.1 : Int)) (fun p => p.1 < 34 ∧ C p.1 ≠ [] ∧ V p.1 = mkR C p) m w.heap.size (fC C V) left gk (fC_shape H6.out) rfl HRG1.out ?done ?more)
    case done =>
      intro hl0
      have HDK : Hid (∀ w5, Mp Try.prog 3 w5 m (fun _ => none) → wr.mapTurned w5 m → Dk w5 B O g (flushed dur C) noC false ∧ Turns O w w5 O) := fun w5 a1 a2 => by
        have g5 := a2.grown
        have hsz := HGR.out.size
        refine ⟨⟨m, fun _ => undef, ?_, fl_len _ _ _, h3, h4, ?_, fun x _ h => absurd rfl h, fun x y _ _ _ h => absurd rfl h, fun i hi => ?_⟩, ⟨g5.os.trans HGR.out.os, g5.tape.trans HGR.out.tape, g5.output.trans HGR.out.output, Nat.le_trans HGR.out.size g5.size, fun i hi ho => ?_, fun i hi => .inl hi⟩⟩
        · have e : flushed dur C = fl dur C (fun y => !(C y).isEmpty && !left (.int .i64 (y : Int))) := fl_congr dur C fun y _ => by rw [hl0]; simp
          rw [e]
          exact (g5.block g (Nat.lt_of_lt_of_le hgl hsz) (fun e => hgm (by injection e))).trans HA1.out
        · rw [fC_no]
          exact a1
        · have := H8.out i hi
          have := g5.size
          omega
        · exact (g5.block i (Nat.lt_of_lt_of_le hi hsz) (fun e => ho (by injection e with e; exact e ▸ h4))).trans (HGR.out.block i hi (fun e => ho (by injection e with e; exact e ▸ h3)))
      have hcA := (dk_cells HA1.out (fl_len _ _ _)).1
      clear hl0
      go_wp2_with (refine wpList_clear_mp _ rfl (.tmp 37) 54 rfl 3 64 Try.underlying54 m (fC C V) rfl HRG1.out.mp ?_; intro w5 hm5 ht5; have HM5 := Lib.hid hm5; have HT5 := Lib.hid ht5; clear hm5 ht5)
      go_ret
      exact ⟨rfl, HDK.out _ HM5.out HT5.out⟩
    case more =>
      intro n gb cp w1 cnt1 hn hc hV hlk hrg1 hlt hg1 hs1 hen
      obtain ⟨bs, l, e1, e2, e3, e4, e5, e6⟩ := row_last (H6.out n hn hc).1 hc hV
      have hne : gb ≠ g := fun e => by
        obtain ⟨cur, hcur⟩ := e6
        have h1 := H1.out
        unfold At at h1
        rw [← e, hcur] at h1
        injection h1 with h1
        injection h1 with _ h1
        exact absurd h1 (by decide)
      have hnb : bs ≠ g := fun e => by
        have h1 := H1.out
        unfold At at h1 e4
        rw [← e, e4] at h1
        injection h1 with h1
        injection h1 with _ h1
        exact absurd h1 (by decide)
      have hgr1 : w.grownBy w1 (some g) := HGR.out.andThen hg1 (fun j e => .inl (by cases e; exact Nat.le_refl _))
      have hcell : w1.cell? ⟨gb, (C n).length - 1, none⟩ = some (.slice (some ⟨bs, 0, none⟩) 64 64) := (World.cell?_of_block (hgr1.block gb e5 (fun e => hne (by injection e)))).trans e3
      have HAS : Hid (At w1 bs 5 (bys l).toArray) := (hgr1.block bs e4.lt (fun e => hnb (by injection e))).trans e4
      have HA2 : Hid (At w1 g 58 (dkc (fl dur C (fun y => !(C y).isEmpty && !left (.int .i64 (y : Int)))) m false).toArray) := (hg1.block g (Nat.lt_of_lt_of_le hgl HGR.out.size) (fun e => by injection e with e; omega)).trans HA1.out
      have HST := Lib.hid (fl_step dur C (fun y => !(C y).isEmpty && !left (.int .i64 (y : Int))) (fun y => !(C y).isEmpty && !(left (.int .i64 (y : Int)) && !(Lit.int .i64 (y : Int)).sameKey (.int .i64 (n : Int)))) n hn l e2 e1 (fun y hy => by
        by_cases e : y = n
        · subst e
          rw [WideAt.sameKey_self (a := .int .i64 (y : Int)) trivial]
          simp [hc]
        · rw [sameKey_ne (fun h => e (by injection h with _ h; omega))]
          have : (y == n) = false := by simpa using e
          rw [this]
          simp))
      have HRD : Hid (Rd w1.drew (some ⟨bs, 0, none⟩) (bys l)) := .inr ⟨bs, 0, rfl, HAS.out.lt, fun i v hv => by rw [Nat.zero_add]; exact (HAS.out.drew.cell i).trans (by simpa using hv)⟩
      have HL := Lib.hid e2
      have HRG2 := Lib.hid hrg1
      have HG1 := Lib.hid hg1
      have HGR1 := Lib.hid hgr1
      have hcl := HC.out n hn
      have hc1 : 0 < (C n).length := List.length_pos_iff.2 hc
      unfold mkR at hen
      dsimp only at hen
      generalize (C n).length = len at *
      have hn0 : (0 : Int) ≤ (n : Int) := by omega
      have hn1 : (n : Int) < 34 := by omega
      have hl0 : (0 : Int) ≤ (len : Int) - 1 := by omega
      have hl1 : ((len : Int) - 1).toNat = len - 1 := by omega
      have hw : IntKind.i64.wrap ((len : Int) - 1) = (len : Int) - 1 := IntWalk.i64_in _ (by omega)
      have hl2 : (len : Int) - 1 < (len : Int) := by omega
      have hl3 : (1 : Int) ≤ (len : Int) := by omega
      have hl4 : 1 ≤ len := by omega
      have HKC : Hid (∀ w2, w1.drew.grownBy w2 (some g) → w2.cell? ⟨gb, len - 1, none⟩ = some (.slice (some ⟨bs, 0, none⟩) 64 64)) := fun w2 a1 => (World.cell?_of_block (a1.block gb (Nat.lt_of_lt_of_le e5 hgr1.size) (fun e => hne (by injection e)))).trans hcell
      clear hV e1 e2 e3 e4 e5 e6 hrg1 hg1 hgr1 hlk hne hnb
      go_wp2_with fail
      go_region_held3 (fun W => W.cell? ⟨gb, len - 1, none⟩ = some (.slice (some ⟨bs, 0, none⟩) 64 64)) (first | assumption | go_keep) ((refine step_copy_at rfl (.tmp 26) (.tmp 32) 28 28 rfl 5 Try.underlying28 u8_one _ _ 64 64 64 64 rfl rfl g (n * 64) _ 58 HA2.out.drew (bys l) (by rw [bys_length, HL.out]; rfl) rfl HRD.out (by rw [bys_length, HL.out, dkc_length _ _ _ (fl_len _ _ _)]; omega) (bys_one _) ?_; intro w2 hA2 hg2; have hcc := HKC.out w2 hg2; have HA3 := Lib.hid hA2; have HG2 := Lib.hid hg2; clear hA2 hg2))
      go_wp2_with fail
      go_roundg cnt1
      case measure => omega
      case rel =>
        refine ⟨_, HRG2.out.same (HG2.out.block m HRG2.out.mp.lt (fun e => hgm (by injection e with e; exact e.symm))) (HG2.out.block _ HRG2.out.lt (fun e => by injection e with e; omega)), ?_, HGR1.out.andThen (row' := some g) ⟨HG2.out.os, HG2.out.tape, HG2.out.output, HG2.out.size, HG2.out.block⟩ (fun j e => .inr e)⟩
        have := HA3.out
        rw [dkc_spl _ _ _ _ _ (by rw [fl_len, HL.out]; omega), HST.out] at this
        exact this
end
end Go.Proofs.Ytmcofmidpedkiaa
