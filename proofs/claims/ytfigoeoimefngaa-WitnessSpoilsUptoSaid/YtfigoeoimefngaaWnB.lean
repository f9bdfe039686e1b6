/-
  witness.Mend.
-/
import Derived.Test.YtfigoeoimefngaaWmC
import Derived.Test.YtfigoeoimefngaaWnA
import Derived.Test.YtfigoeoimefngaaWkC
import Derived.Test.YtfigoeoimefngaaWjF
namespace Go.Proofs.Ytfigoeoimefngaa
open Go.RowKit Go.Maps Go.Shelf
attribute [local go_sem] Oper.semAt_some

theorem own_sets {w : World} {B : Nat} {e : TypeId} {size n g cap : Nat} {xs : List Value} (h : w.ownsRow B e size (.slice (some ⟨g, 0, none⟩) n cap) n xs) (vs : List Value) (o : Nat) (hl : o + vs.length ≤ xs.length) :
    (w.setCells g o vs).ownsRow B e size (.slice (some ⟨g, 0, none⟩) n cap) n (spl xs o vs) := by
  refine ⟨by rw [spl_length _ _ _ hl]; exact h.1, .inr ?_⟩
  rcases h.2 with h2 | ⟨g', cap', cur, h1, h2, h3, h4, h5, h6, h7⟩
  · cases h2.1
  · injection h1 with h1 _ hc
    injection h1 with h1
    injection h1 with h1
    subst h1 hc
    have hxl : xs.length = n * size := h.1
    have hcl : n * size ≤ cur.toList.length := by
      have : n * size ≤ cap * size := Nat.mul_le_mul_right _ h4
      simp [h6, this]
    have hA : At w g e cur.toList.toArray := by simpa [At] using h3
    have hs := At.setCells vs o hA (by omega)
    refine ⟨g, cap, (spl cur.toList o vs).toArray, rfl, h2, hs, h4, h5, ?_, ?_⟩
    · rw [List.size_toArray, spl_length _ _ _ (by omega)]
      simpa using h6
    · have hll : o + vs.length ≤ n * size := by omega
      subst h7
      refine List.ext_getElem? (fun i => ?_)
      rw [List.getElem?_take, spl_get _ _ _ (by omega), spl_get _ _ _ (by omega), List.getElem?_take]
      by_cases hi : i < n * size
      · simp [hi]
      · rw [if_neg hi, if_neg (by omega), if_neg (by omega), if_neg hi]
theorem spl_right {α : Type} (a b vs : List α) (o : Nat) : spl (a ++ b) (a.length + o) vs = a ++ spl b o vs := by
  unfold spl
  rw [List.take_length_add_append, show a.length + o + vs.length = a.length + (o + vs.length) by omega, List.drop_length_add_append]
  simp
theorem rows_put {v : List Int} (hv : v.length = 8) : ∀ (l : List Sn) (p : Nat), p < l.length → rowsOf Sn.cs (l.modify p (fun x => x.put v)) = spl (rowsOf Sn.cs l) (p * 14 + 5) (ivs v)
  | [], _, h => by simp at h
  | x :: l, 0, _ => by
    obtain ⟨a0, a1, a2, a3, a4, a5, a6, a7, rfl⟩ := eight_of hv
    rfl
  | x :: l, p + 1, h => by
    have ih := rows_put hv l p (by simpa using h)
    rw [show (x :: l).modify (p + 1) (fun x => x.put v) = x :: l.modify p (fun x => x.put v) from rfl, rows_cons, rows_cons, ih, show (p + 1) * 14 + 5 = x.cs.length + (p * 14 + 5) by rw [Sn.cs_len]; omega, spl_right]
theorem mendK_snoc (L : List Sn) (fs : List Ft) (f : Ft) : mendK L (fs ++ [f]) = (mendK L fs).modify f.at_ (fun x => x.put f.want) := by unfold mendK; rw [List.foldl_append]; rfl
theorem mendK_len (L : List Sn) : ∀ fs : List Ft, (mendK L fs).length = L.length := by
  have : ∀ (fs : List Ft) (l : List Sn), (mendK l fs).length = l.length := by
    intro fs
    induction fs with
    | nil => intro l; rfl
    | cons f fs ih =>
      intro l
      show (mendK (l.modify f.at_ (fun x => x.put f.want)) fs).length = _
      rw [ih, List.length_modify]
  exact fun fs => this fs L
/-- The state of Mend between two rounds. -/
structure MdC (w3 : World) (base : Nat) (L : List Sn) (v : Value) (rs : List Ft) (k : Nat) (W : World) : Prop where
  t : Turns (fun i => v.ownBlock = some i) w3 W (fun _ => False)
  own : W.ownsRow base 36 14 v L.length (rowsOf Sn.cs (mendK L (rs.take k)))
def MendP (L : List Sn) (w : World) (e : Ending) (w' : World) : Prop :=
  Grows w w' ∧ ((mayB L = false ∧ e = .returned (.tuple #[.slice none 0 0, .int .i64 2])) ∨
    (mayB L = true ∧ ∃ v, e = .returned (.tuple #[v, .int .i64 0]) ∧ w'.ownsRow w.heap.size 36 14 v L.length (rowsOf Sn.cs (mendL L))))
set_option maxRecDepth 100000 in
set_option maxHeartbeats 8000000 in
theorem mend32_any (L : List Sn) (n : Nat) (hn : L.length = n) (hL : n ≤ 1000) (hok : ∀ x ∈ L, x.n.ok ∧ x.wk.ok) (a : Option Addr) (cap : Nat) (w : World) (hr : Rd w a (rowsOf Sn.cs L)) :
    Calls Try.prog 15 #[.slice a n cap] w (MendP L w) := by
  have hfz := fz_zero
  have HLK := Lib.hid (look_any L n hn hL hok a cap w hr)
  have HR := Lib.hid hr
  have HN := Lib.hid hn
  have HNL := Lib.hid hL
  have HOK := Lib.hid hok
  clear hn hL hok hr
  obtain ⟨i0, hi0, hz0, hz1, hz2⟩ := info_parts info_sn
  refine (callsIn_wide (n := 5)).1 ?_
  refine callsIn_of_wp_marks Try.func15 rfl trivial ?_ rfl
  simp only [Try.ntmps15, List.size_toArray, List.length_cons, List.length_nil, Nat.reduceAdd, Nat.reduceSub, Array.replicate_succ, Array.replicate_zero, List.push_toArray, List.append_toArray, List.nil_append, List.cons_append]
  gi_wp2_with (refine ⟨trivial, ?_⟩; gi_at_call 26; refine (callsIn_wide.2 HLK.out).mono ?_)
  clear HLK
  rintro e w1 ⟨hg, ⟨hm, rfl⟩ | ⟨hm, a', c', r, V, rfl, h1, h2, h3, h4⟩⟩
  · have HM := Lib.hid hm
    have HG := Lib.hid hg
    clear hm hg
    gi_wp2
    exact ⟨_, results_tmp2 Try.results15 _ _ _, HG.out.alloc _, .inl ⟨HM.out, rfl⟩⟩
  · have HM := Lib.hid hm
    have HG := Lib.hid hg
    have HRV := Lib.hid (HR.out.grows hg)
    have HNV := Lib.hid h3
    have HVW := Lib.hid h4
    have HRA := Lib.hid ((HR.out.grows hg).grows ((Grows.refl w1).alloc (.cells #[.slice a n cap, .slice a' (decL L).length c', .map (some r), .map (some (r + 1)), .map (some (r + 2))] 63)))
    unfold vwv
    clear hm hg h1 h2 h3 h4
    gi_wp2_with (refine wpListIn_append_rd rfl (.const (.slice none 0 0)) (.tmp 15) 22 rfl (w1.alloc (.cells #[.slice a n cap, .slice a' (decL L).length c', .map (some r), .map (some (r + 1)), .map (some (r + 2))] 63)).heap.size 36 i0 (.agg Sn.zero.cs.toArray) 14 56 Try.underlying22 hi0 hz0 hz1 hz2 rfl (by decide) (.slice none 0 0) 0 [] rfl (World.ownsRow_nil _ _ _ _) a n cap (rowsOf Sn.cs L) rfl HRA.out ?q1 ?q2 ?q3 ?q4 ?q5 ?_)
    case q1 => rw [rows_length Sn.cs_len, HN.out]
    case q2 => exact seen_one L
    case q3 => unfold maxLen; have := HNL.out; omega
    case q4 => have := HNL.out; omega
    case q5 => exact Nat.le_refl _
    intro v3 w2 hown hgr _
    have hgg : Grows (w1.alloc (.cells #[.slice a n cap, .slice a' (decL L).length c', .map (some r), .map (some (r + 1)), .map (some (r + 2))] 63)) w2 := (Grows.refl _).grown hgr (fun k hk => by cases hk)
    obtain ⟨av, cv, rfl, _, _, _⟩ := own_slice hown
    obtain ⟨B, hB⟩ : ∃ B, w1.heap.size = B := ⟨_, rfl⟩
    obtain ⟨bx, hbx⟩ : ∃ bx, w2.heap.size = bx := ⟨_, rfl⟩
    rw [hB] at hown
    have HOB : Hid (∀ i, (Value.slice av n cv).ownBlock = some i → B + 1 ≤ i ∧ i < bx) := Lib.hid (fun i hi => by
      obtain ⟨_, _, h2, h3⟩ := own_typed hown hi
      exact ⟨h2, by omega⟩)
    have HBX : Hid (B + 1 ≤ bx) := Lib.hid (by have := hgg.size; rw [World.size_alloc] at this; omega)
    obtain ⟨w2b, hw2b⟩ : ∃ w2b, w2.alloc (.cells #[.slice av n cv] 22) = w2b := ⟨_, rfl⟩
    have hsb : w2b.heap.size = bx + 1 := by rw [← hw2b, World.size_alloc, hbx]
    obtain ⟨w3, hw3⟩ : ∃ w3, w2b.alloc (.cells #[.slice a n cap, .slice a' (decL L).length c', .map (some r), .map (some (r + 1)), .map (some (r + 2))] 63) = w3 := ⟨_, rfl⟩
    have hs3 : w3.heap.size = bx + 2 := by rw [← hw3, World.size_alloc, hsb]
    have hgb : Grows w2 w2b := by rw [← hw2b]; exact (Grows.refl _).alloc _
    have hg3 : Grows w2b w3 := by rw [← hw3]; exact (Grows.refl _).alloc _
    have HG3 : Hid (Grows w1 w3) := Lib.hid (((((Grows.refl w1).alloc _).trans hgg).trans hgb).trans hg3)
    have hv2 : At w2b B 63 #[.slice a n cap, .slice a' (decL L).length c', .map (some r), .map (some (r + 1)), .map (some (r + 2))] := by
      have := At.new w1 63 #[.slice a n cap, .slice a' (decL L).length c', .map (some r), .map (some (r + 1)), .map (some (r + 2))]
      rw [hB] at this
      exact (this.grows hgg).grows hgb
    have HV3 : Hid (At w3 (bx + 1) 63 #[.slice a n cap, .slice a' (decL L).length c', .map (some r), .map (some (r + 1)), .map (some (r + 2))]) := Lib.hid (by
      have := At.new w2b 63 #[.slice a n cap, .slice a' (decL L).length c', .map (some r), .map (some (r + 1)), .map (some (r + 2))]
      rw [hsb] at this
      rw [← hw3]; exact this)
    have HBB : Hid (At w3 bx 22 #[.slice av n cv]) := Lib.hid (by
      have := At.new w2 22 #[.slice av n cv]
      rw [hbx, hw2b] at this
      exact this.grows hg3)
    have HOW : Hid (w3.ownsRow (B + 1) 36 14 (.slice av n cv) n (rowsOf Sn.cs L)) := Lib.hid (own_grows (own_grows hown hgb) hg3)
    have v0 : w2b.cell? ⟨B, 0, none⟩ = some (.slice a n cap) := hv2.cell 0
    have v1 : w2b.cell? ⟨B, 1, none⟩ = some (.slice a' (decL L).length c') := hv2.cell 1
    have v2 : w2b.cell? ⟨B, 2, none⟩ = some (.map (some r)) := hv2.cell 2
    have v3 : w2b.cell? ⟨B, 3, none⟩ = some (.map (some (r + 1))) := hv2.cell 3
    have v4 : w2b.cell? ⟨B, 4, none⟩ = some (.map (some (r + 2))) := hv2.cell 4
    clear hown hgr hgg hgb hg3 hv2 HRA
    rw [hB]
    gi_wp2_with (refine ⟨trivial, ?_⟩; gi_at_call 30; refine (callsIn_wide.2 (reads_any _ _ _ _ _ _ _ _)).mono ?_; rintro e w' ⟨rfl, rfl⟩)
    clear v0 v1 v2 v3 v4 hw3 hw2b hsb
    have HWB : Hid (w.heap.size ≤ B) := Lib.hid (by rw [← hB]; exact HG.out.size)
    have HVB : Hid (∀ k W, MdC w3 (B + 1) L (.slice av n cv) (readsF L) k W → Grows w1 W ∧ At W (bx + 1) 63 #[.slice a n cap, .slice a' (decL L).length c', .map (some r), .map (some (r + 1)), .map (some (r + 2))] ∧ At W bx 22 #[.slice av n cv]) := Lib.hid (fun k W h =>
      ⟨h.t.low HG3.out (fun i hi => by have := (HOB.out i hi).1; omega), h.t.at HV3.out (fun hi => by have := (HOB.out _ hi).2; omega), h.t.at HBB.out (fun hi => by have := (HOB.out _ hi).2; omega)⟩)
    refine wpIn_reads 3 (bx + 1) a cap L n HN.out HNL.out HM.out HOK.out a' c' r V w3 rfl (by omega) (MdC w3 (B + 1) L (.slice av n cv) (readsF L)) (fun i => (Value.slice av n cv).ownBlock = some i) ?c1 ?c2 ?c3 ?c4 rfl ?c5 ?c6
    case c1 => intro i hi; have := (HOB.out i hi).2; omega
    case c2 => exact ⟨(Turns.refl _ w3).weak, by rw [HN.out]; exact HOW.out⟩
    case c3 =>
      rintro k W W' h hk
      refine ⟨h.t.kp (Nat.le_refl _) hk, own_keep h.own (fun b hb => hk.block b (own_typed h.own hb).choose_spec.2.2 (.inl (by have := (HOB.out b hb).2; omega)))⟩
    case c4 =>
      rintro k W h
      obtain ⟨h1, h2, _⟩ := HVB.out k W h
      exact ⟨h2, HRV.out.grows h1, HNV.out.grows h1, HVW.out.grows h1⟩
    case c5 =>
      rintro fn k f W' rc hrc hf h hl hsz
      rw [hs3] at hl hsz ⊢
      have hfm := List.mem_of_getElem? hf
      obtain ⟨x, hx, _⟩ := read_at hfm
      have hfo := (readsF_ok HM.out HOK.out hfm).ok
      have hfn : f.at_ < n := by rw [← HN.out]; exact (List.getElem?_eq_some_iff.1 hx).1
      obtain ⟨g, cv2, e1, hg1, _⟩ := own_form HOW.out (by omega)
      injection e1 with e1 _ e2
      subst e1 e2
      have hgb := HOB.out g rfl
      obtain ⟨hg1, hv1, hb1⟩ := HVB.out k W' h
      obtain ⟨W4, hW4⟩ : ∃ W4, (W'.alloc (.cells fz 34)).setCells W'.heap.size 0 f.cs.toArray.toList = W4 := ⟨_, rfl⟩
      have hT4 : Turns (fun i => (Value.slice (some ⟨g, 0, none⟩) n cv).ownBlock = some i ∨ i = bx + 2 + 1) W' W4 (fun i => (Value.slice (some ⟨g, 0, none⟩) n cv).ownBlock = some i ∨ i = bx + 2 + 1) := by rw [← hW4]; exact Turns.sets (.inr (Nat.le_refl _)) _ 0 ((Turns.refl _ W').alloc _)
      have hG4 : Grows W' W4 := by rw [← hW4]; exact (Turns.sets (O := fun i => i = W'.heap.size) (g := W'.heap.size) (.inl rfl) _ 0 ((Turns.refl _ W').alloc _)).low (Grows.refl W') (fun i hi => by omega)
      have hX4 : At W4 W'.heap.size 34 f.cs.toArray := by
        rw [← hW4]
        exact At.all (cs := fz.toList) (At.new W' _ _) (by rw [List.toList_toArray, Ft.cs_len hfo]; rfl)
      have hL4 : W4.heap[bx + 2 + 1]? = some (.loop (rc .ready)) := (hG4.block _ (by omega)).trans hl
      have hlt4 : bx + 2 + 1 < W4.heap.size := (Array.getElem?_eq_some_iff.1 hL4).1
      obtain ⟨W5, hW5⟩ : ∃ W5, W4.putObj (bx + 2 + 1) (.loop (rc .busy)) = W5 := ⟨_, rfl⟩
      have hT5 : Turns (fun i => (Value.slice (some ⟨g, 0, none⟩) n cv).ownBlock = some i ∨ i = bx + 2 + 1) W' W5 (fun i => (Value.slice (some ⟨g, 0, none⟩) n cv).ownBlock = some i ∨ i = bx + 2 + 1) := by rw [← hW5]; exact hT4.put (.inl (.inr rfl)) _
      have hT5' : Turns (fun i => i = bx + 2 + 1) W' W5 (fun i => i = bx + 2 + 1) := by rw [← hW5]; exact ((Turns.refl (fun i => i = bx + 2 + 1) W').grows hG4).put (g := bx + 2 + 1) (.inl rfl) _
      have hk5 : Kp (bx + 2) (fun _ => False) W' W5 := Kp.of_turns hT5' (by
        rintro i rfl (h1 | h1)
        · omega
        · exact h1)
      have h5 : MdC w3 (B + 1) L (.slice (some ⟨g, 0, none⟩) n cv) (readsF L) k W5 := ⟨h.t.kp (by omega) hk5, own_keep h.own (fun b hb => hk5.block b (own_typed h.own hb).choose_spec.2.2 (.inl (by have := (HOB.out b hb).2; omega)))⟩
      have hL5 : W5.heap[bx + 2 + 1]? = some (.loop (rc .busy)) := by rw [← hW5]; exact World.putObj_heap_same hlt4
      have hX5 : At W5 W'.heap.size 34 f.cs.toArray := by rw [← hW5]; exact hX4.putObj (by omega) _
      have hb5 : At W5 bx 22 #[.slice (some ⟨g, 0, none⟩) n cv] := hb1.kp (by omega) hk5
      have cS : W5.cell? ⟨bx, 0, none⟩ = some (.slice (some ⟨g, 0, none⟩) n cv) := hb5.cell 0
      have cX : W5.cell? ⟨W'.heap.size, 0, none⟩ = some (.int .i64 (f.at_ : Int)) := hX5.cell 0
      have HS : Hid ((storeVar 34 ⟨W'.heap.size, 0, none⟩ (.agg f.cs.toArray)).run Try.prog (W'.alloc (.cells fz 34)) = .ok () W4) := Lib.hid (by
        rw [← hW4]
        exact run_storeVar_mid _ _ 0 _ _ ((At.new W' _ _).there 0 _ (by rw [List.size_toArray, Ft.cs_len hfo]; exact Nat.le_refl _)) (by rw [List.size_toArray, Ft.cs_len hfo]; exact info_fault) f.cs_one)
      have HLV : Hid ((loadVar 31 ⟨W'.heap.size, 5, none⟩).run Try.prog W5 = .ok (.agg (ivs f.want).toArray) W5) := Lib.hid (by
        have := ld_mid (P := Try.prog) (o := 5) (n := 8) hX5 Try.underlying31 rfl (by rw [Ft.cs_len hfo]; omega) info_val8 W5 (Grows.refl _)
        rwa [Ft.cs_want hfo] at this)
      have hln : (mendK L ((readsF L).take k)).length = n := by rw [mendK_len, HN.out]
      have hrl : f.at_ * 14 + 5 + (ivs f.want).length ≤ (rowsOf Sn.cs (mendK L ((readsF L).take k))).length := by rw [rows_length Sn.cs_len, hln, ivs_len, hfo.want]; omega
      obtain ⟨W6, hW6⟩ : ∃ W6, W5.setCells g (f.at_ * 14 + 5) (ivs f.want).toArray.toList = W6 := ⟨_, rfl⟩
      have HSV : Hid ((storeVar 31 ⟨g, f.at_ * 14 + 5, none⟩ (.agg (ivs f.want).toArray)).run Try.prog W5 = .ok () W6) := Lib.hid (by
        rw [← hW6]
        refine run_storeVar_mid _ _ _ _ _ ?_ (by rw [List.size_toArray, ivs_len, hfo.want]; exact info_val8) (ivs_all f.want)
        rcases h5.own.2 with h2 | ⟨g', cap', cur, q1, q2, q3, q4, q5, q6, q7⟩
        · cases h2.1
        · injection q1 with q1 _ _
          injection q1 with q1
          injection q1 with q1
          subst q1
          have hA : At W5 g 36 cur := q3
          refine hA.there _ _ ?_
          rw [q6, List.size_toArray, ivs_len, hfo.want]
          rw [HN.out] at q4
          omega)
      have hT7 : Turns (fun i => i = g) W5 W6 (fun i => i = g) := by rw [← hW6]; exact Turns.sets (O := fun i => i = g) (g := g) (.inl rfl) _ _ (Turns.refl (fun i => i = g) W5)
      have HL7 : Hid (W6.heap[bx + 2 + 1]? = some (.loop (rc .busy))) := Lib.hid ((hT7.block _ (Array.getElem?_eq_some_iff.1 hL5).1 (by omega)).trans hL5)
      have HZ : Hid (MdC w3 (B + 1) L (.slice (some ⟨g, 0, none⟩) n cv) (readsF L) (k + 1) W6) := Lib.hid (by
        rw [← hW6]
        refine ⟨Turns.sets (O := fun i => (Value.slice (some ⟨g, 0, none⟩) n cv).ownBlock = some i) (g := g) (.inl rfl) _ _ h5.t, ?_⟩
        rw [List.take_add_one, hf]
        show World.ownsRow _ _ _ _ _ _ (rowsOf Sn.cs (mendK L ((readsF L).take k ++ [f])))
        rw [mendK_snoc, rows_put hfo.want _ _ (by rw [hln]; exact hfn)]
        have := h5.own
        rw [HN.out] at this ⊢
        exact own_sets this _ _ hrl)
      have HT7 : Hid (Turns (fun i => (Value.slice (some ⟨g, 0, none⟩) n cv).ownBlock = some i ∨ i = bx + 2 + 1) W' W6 (fun i => (Value.slice (some ⟨g, 0, none⟩) n cv).ownBlock = some i ∨ i = bx + 2 + 1)) := Lib.hid (by
        rw [← hW6]
        exact Turns.sets (g := g) (.inl (.inl rfl)) _ _ hT5)
      have hat : (f.at_ : Int) < (n : Int) := by omega
      have hat0 : (0 : Int) ≤ (f.at_ : Int) := by omega
      clear hrc hf h hsz hT4 hG4 hX4 hlt4 hT5 hT5' hk5 h5 hL5 hX5 hb5 hln hrl hT7 hs3 hfm hx hfo hfn hgb hg1 hv1 hb1 hW4 hW6 hl
      gi_wp2_with (first | (with_reducible refine wpListIn_store (w' := W4) (o := ⟨none, .store 34 (.tmp 7) (.tmp 19), _, _, _, none⟩) rfl 34 (.tmp 7) (.tmp 19) rfl W'.heap.size 0 (.agg f.cs.toArray) ?_ ?_ HS.out ?_) | (with_reducible refine wpListIn_load (o := ⟨some 24, .load 31 (.tmp 23), _, _, _, none⟩) rfl 31 (.tmp 23) rfl W'.heap.size 5 (.agg (ivs f.want).toArray) ?_ HLV.out ?_) | (with_reducible refine wpListIn_store (w' := W6) (o := ⟨none, .store 31 (.tmp 26) (.tmp 24), _, _, _, none⟩) rfl 31 (.tmp 26) (.tmp 24) rfl g (f.at_ * 14 + 5) (.agg (ivs f.want).toArray) ?_ ?_ HSV.out ?_))
      all_goals try rfl
      exact ⟨HL7.out, HZ.out, HT7.out⟩
    case c6 =>
      intro W h hd hs
      rw [hs3] at hd hs ⊢
      obtain ⟨hg1, hv1, hb1⟩ := HVB.out _ W h
      have cS : W.cell? ⟨bx, 0, none⟩ = some (.slice av n cv) := hb1.cell 0
      have ho := h.own
      rw [List.take_length] at ho
      have HD := Lib.hid hd
      have HG9 := Lib.hid (HG.out.trans hg1)
      have HO := Lib.hid ho
      clear h hd hs hg1 hv1 hb1 ho
      dsimp only
      gi_wp2
      have hT : Turns (fun i => i = bx + 2) W (W.putObj (bx + 2) (.deferred none)) (fun i => i = bx + 2) := (Turns.refl (fun i => i = bx + 2) W).put (g := bx + 2) (.inl rfl) _
      have hwb := HWB.out
      have hxb := HBX.out
      refine ⟨by simp, .inl ⟨_, _, rfl, run_takeDeferred HD.out, ?_⟩⟩
      refine ⟨_, results_tmp2 Try.results15 _ _ _, hT.low HG9.out (fun i hi => by omega), .inr ⟨HM.out, _, rfl, ?_⟩⟩
      have h1 := own_keep (w1 := W.putObj (bx + 2) (.deferred none)) HO.out (fun b hb => hT.block b (own_typed HO.out hb).choose_spec.2.2 (by have := (HOB.out b hb).2; omega))
      rw [HN.out] at h1 ⊢
      exact own_lower h1 (by omega)
end Go.Proofs.Ytfigoeoimefngaa
