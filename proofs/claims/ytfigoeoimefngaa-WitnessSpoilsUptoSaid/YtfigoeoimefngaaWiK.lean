/-
  slices.AppendSeq, slices.Collect over the faults.
-/
import Derived.Test.YtfigoeoimefngaaWiJ
namespace Go.Proofs.Ytfigoeoimefngaa
open Go.RowKit Go.Maps Go.Shelf
attribute [local go_sem] Oper.semAt_some

theorem rows_take1 {fs : List Ft} {k : Nat} {f : Ft} (hf : fs[k]? = some f) : rowsOf Ft.cs (fs.take (k + 1)) = rowsOf Ft.cs (fs.take k) ++ f.cs := by
  rw [List.take_add_one, hf]
  simp [rowsOf]
theorem info_ft : (Try.prog.info? 34).map (fun i => (i.zero, i.size, i.bytes)) = some (some (.agg fz), 28, 112) := by kernel_rfl
theorem Turns.grown {O O1 : Nat → Prop} {w w1 w2 : World} {row : Option Nat} (h : Turns O w w1 O1) (k : w1.grownBy w2 row) (hr : ∀ b, row = some b → O b ∨ w.heap.size ≤ b) : Turns O w w2 O1 :=
  ⟨k.os.trans h.os, k.tape.trans h.tape, k.output.trans h.output, Nat.le_trans h.size k.size, fun i hi ho => (k.block i (Nat.lt_of_lt_of_le hi h.size) (fun e => by
    rcases hr i e.symm with h1 | h1
    · exact ho h1
    · omega)).trans (h.block i hi ho), h.own⟩
set_option maxRecDepth 100000 in
set_option maxHeartbeats 8000000 in
theorem appseq_any (bl : Nat) (a : Option Addr) (cap : Nat) (L : List Sn) (n : Nat) (hn : L.length = n) (hL : n ≤ 1000) (hm : mayB L = true) (hok : ∀ x ∈ L, x.n.ok ∧ x.wk.ok) (a' : Option Addr) (c' r : Nat) (V : Nm → Value) (w : World)
    (hV : VwB w bl L a n cap a' c' r V) (hlen : (wrongF L).length ≤ 1000000) :
    Calls Try.prog 35 #[.slice none 0 0, .func (.func 36) #[] #[.pointer (some ⟨bl, 0, none⟩)]] w fun e w' =>
      ∃ v, e = .returned v ∧ w'.ownsRow w.heap.size 34 28 v (wrongF L).length (rowsOf Ft.cs (wrongF L)) ∧ Grows w w' := by
  have HV := Lib.hid hV
  have HN := Lib.hid hn
  have HM := Lib.hid hm
  have HOK := Lib.hid hok
  have HNL := Lib.hid hL
  have HLN := Lib.hid hlen
  clear hV hn hm hok hL hlen
  refine (callsIn_wide (n := 5)).1 ?_
  refine callsIn_of_wp_marks Try.func35 rfl trivial ?_ rfl
  simp only [Try.ntmps35, List.size_toArray, List.length_cons, List.length_nil, Nat.reduceAdd, Nat.reduceSub, Array.replicate_succ, Array.replicate_zero, List.push_toArray, List.append_toArray, List.nil_append, List.cons_append]
  gi_wp2
  obtain ⟨w3, hw3⟩ : ∃ w3, w.alloc (.cells #[.slice none 0 0] 24) = w3 := ⟨_, rfl⟩
  have hs3 : w3.heap.size = w.heap.size + 1 := by rw [← hw3, World.size_alloc]
  have HG3 : Hid (Grows w w3) := Lib.hid (by rw [← hw3]; exact (Grows.refl _).alloc _)
  have HA3 : Hid (At w3 w.heap.size 24 #[.slice none 0 0]) := Lib.hid (by rw [← hw3]; exact At.new w _ _)
  rw [hw3]
  clear hw3
  refine wpIn_rf (gf := 36) (lb := #[.pointer (some ⟨bl, 0, none⟩)]) rfl (enters_of Try.func36 (by kernel_rfl) rfl) ?_
  intro fn
  generalize hrc : rcd fn (Act.tmps _) _ _ _ _ = rc
  rw [hs3]
  have HW1 : Hid (Grows w3 ((w3.alloc (.deferred (some []))).alloc (.loop (rc .ready)))) := Lib.hid (((Grows.refl _).alloc _).alloc _)
  have HL1 : Hid (((w3.alloc (.deferred (some []))).alloc (.loop (rc .ready))).heap[w.heap.size + 2]? = some (.loop (rc .ready))) := Lib.hid (by
    have := World.alloc_heap_new (w3.alloc (.deferred (some []))) (.loop (rc .ready))
    rw [World.size_alloc, hs3] at this
    exact this)
  have HD1 : Hid (((w3.alloc (.deferred (some []))).alloc (.loop (rc .ready))).heap[w.heap.size + 1]? = some (.deferred (some []))) := Lib.hid (by
    rw [← hs3]
    exact (RowKit.Below.heap_alloc _ _ _ (by simp)).trans (World.alloc_heap_new w3 _))
  have HS1 : Hid (((w3.alloc (.deferred (some []))).alloc (.loop (rc .ready))).heap.size = w.heap.size + 3) := Lib.hid (by rw [World.size_alloc, World.size_alloc, hs3])
  clear hs3
  generalize (w3.alloc (.deferred (some []))).alloc (.loop (rc .ready)) = W1 at *
  have HG1 := Lib.hid (HG3.out.trans HW1.out)
  obtain ⟨fs, hfs⟩ : ∃ fs, wrongF L = fs := ⟨_, rfl⟩
  have HFS := Lib.hid hfs
  refine (faults1_any (w.heap.size + 2) bl 1 a cap L n HN.out HNL.out HM.out HOK.out a' c' r V W1 (fun k O W' => ∃ v, CJ w fs (rc .ready) k O W' v) (fun i => i = w.heap.size ∨ i = w.heap.size + 2) ?i0 ?iO ?iJ ?iV ?ib ?iY).mono ?_
  case i0 =>
    exact ⟨.slice none 0 0, World.ownsRow_nil _ _ _ _, HA3.out.grows HW1.out, fun i => ⟨fun h => h.elim .inl (fun h => .inr (.inl h)), fun h => by
      rcases h with h | h | h
      · exact .inl h
      · exact .inr h
      · cases h⟩, HG1.out, HD1.out, HL1.out, by rw [HS1.out]; exact Nat.le_refl _⟩
  case iO =>
    rintro k O W' ⟨v, h⟩
    have := h.size
    rw [HS1.out]
    refine ⟨h.size, fun i hi => ?_⟩
    rcases (h.o i).1 hi with h1 | h1 | h1
    · omega
    · omega
    · exact (own_typed h.own h1).choose_spec.2.2
  case iJ =>
    rintro k O W' W'' ⟨v, h⟩ hk
    rw [HS1.out] at hk
    exact ⟨v, h.keep hk⟩
  case iV =>
    rintro k O W' ⟨v, h⟩
    exact HV.out.grows h.g
  case ib => have := HV.out.box.lt; rw [HS1.out]; omega
  case iY =>
    rintro k O W' f hf ⟨v, h⟩
    rw [hfs] at hf
    obtain ⟨f0, hf0, hfk⟩ : ∃ f0, f0 ∈ readsF L ∧ f = kdF L f0 := by
      have := List.mem_of_getElem? hf
      rw [← hfs] at this
      unfold wrongF at this
      obtain ⟨f0, h1, h2⟩ := List.mem_map.1 this
      exact ⟨f0, (List.mem_filter.1 h1).1, h2.symm⟩
    have hfo : f.ok := by rw [hfk]; have := (readsF_ok HM.out HOK.out hf0).ok; exact ⟨this.want, this.got⟩
    have hkl : k < fs.length := (List.getElem?_eq_some_iff.1 hf).1
    have hfl : fs.length ≤ 1000000 := by rw [← hfs]; exact HLN.out
    clear hf0 hfk
    obtain ⟨av, cv, rfl, _, _, _⟩ := own_slice h.own
    have hsz := h.size
    obtain ⟨W4, hW4⟩ : ∃ W4, (W'.alloc (.cells fz 34)).setCells W'.heap.size 0 f.cs.toArray.toList = W4 := ⟨_, rfl⟩
    have hT4 : Turns O W' W4 O := by rw [← hW4]; exact Turns.sets (.inr (Nat.le_refl _)) _ 0 ((Turns.refl O W').alloc _)
    have hG4 : Grows W' W4 := by rw [← hW4]; exact (Turns.sets (O := fun i => i = W'.heap.size) (g := W'.heap.size) (.inl rfl) _ 0 ((Turns.refl _ W').alloc _)).low (Grows.refl W') (fun i hi => by omega)
    have hX4 : At W4 W'.heap.size 34 f.cs.toArray := by
      rw [← hW4]
      exact At.all (cs := fz.toList) (At.new W' _ _) (by rw [List.toList_toArray, Ft.cs_len hfo]; rfl)
    have hL4 : W4.heap[w.heap.size + 2]? = some (.loop (rc .ready)) := (hG4.block _ (by omega)).trans h.loop
    have hlt4 : w.heap.size + 2 < W4.heap.size := (Array.getElem?_eq_some_iff.1 hL4).1
    obtain ⟨W5, hW5⟩ : ∃ W5, W4.putObj (w.heap.size + 2) (.loop (rc .busy)) = W5 := ⟨_, rfl⟩
    have HT5 : Hid (Turns O W' W5 O) := Lib.hid (by rw [← hW5]; exact hT4.put (.inl ((h.o _).2 (.inr (.inl rfl)))) _)
    have HL5 : Hid (W5.heap[w.heap.size + 2]? = some (.loop (rc .busy))) := Lib.hid (by rw [← hW5]; exact World.putObj_heap_same hlt4)
    have hX5 : At W5 W'.heap.size 34 f.cs.toArray := by rw [← hW5]; exact hX4.putObj (by omega) _
    have hT5' : Turns (fun i => i = w.heap.size + 2) W' W5 (fun i => i = w.heap.size + 2) := by rw [← hW5]; exact ((Turns.refl (fun i => i = w.heap.size + 2) W').grows hG4).put (g := w.heap.size + 2) (.inl rfl) _
    have HS : Hid ((storeVar 34 ⟨W'.heap.size, 0, none⟩ (.agg f.cs.toArray)).run Try.prog (W'.alloc (.cells fz 34)) = .ok () W4) := Lib.hid (by
      rw [← hW4]
      exact run_storeVar_mid _ _ 0 _ _ ((At.new W' _ _).there 0 _ (by rw [List.size_toArray, Ft.cs_len hfo]; exact Nat.le_refl _)) (by rw [List.size_toArray, Ft.cs_len hfo]; exact info_fault) f.cs_one)
    have HLF : Hid ((loadVar 34 ⟨W'.heap.size, 0, none⟩).run Try.prog W5 = .ok (.agg f.cs.toArray) W5) := Lib.hid (run_loadVar_row W5 _ _ _ _ (0, 0) _ hX5 Try.underlying34 rfl (by rw [List.size_toArray, Ft.cs_len hfo]; exact info_fault))
    obtain ⟨i0, hi0, hz0, hz1, hz2⟩ := info_parts info_ft
    have HSI : Hid (i0.size = f.cs.toArray.size) := Lib.hid (by rw [hz1, List.size_toArray, Ft.cs_len hfo])
    have HPO : Hid (0 < f.cs.toArray.size) := Lib.hid (by rw [List.size_toArray, Ft.cs_len hfo]; omega)
    have HSM : Hid (f.cs.toArray.size ≤ 1000) := Lib.hid (by rw [List.size_toArray, Ft.cs_len hfo]; omega)
    have hB5 : At W5 w.heap.size 24 #[.slice av k cv] := hT5'.at h.box (by omega)
    have c5 : W5.cell? ⟨w.heap.size, 0, none⟩ = some (.slice av k cv) := hB5.cell 0
    have hD5 : W5.heap[w.heap.size + 1]? = some (.deferred (some [])) := (hT5'.block _ (by omega) (by omega)).trans h.dfr
    have hg5 : Grows w W5 := hT5'.low h.g (fun i hi => by omega)
    have HOW5 : Hid ((W5.alloc (.cells f.cs.toArray 34)).ownsRow (w.heap.size + 3) 34 28 (.slice av k cv) k (rowsOf Ft.cs (fs.take k))) := Lib.hid (own_grows (own_keep h.own (fun b hb => by
      obtain ⟨_, _, h2, h3⟩ := own_typed h.own hb
      exact hT5'.block b h3 (by omega))) ((Grows.refl _).alloc _))
    have HRD5 : Hid (Rd (W5.alloc (.cells f.cs.toArray 34)) (some ⟨W5.heap.size, 0, none⟩) f.cs) := Lib.hid (.inr ⟨W5.heap.size, 0, rfl, by simp, fun i v hv => by
      rw [(At.new W5 34 f.cs.toArray).cell]; simpa using hv⟩)
    have HML : Hid (f.cs.length = 1 * 28) := Lib.hid (by rw [Ft.cs_len hfo])
    have HMO : Hid (∀ u ∈ f.cs, u.oneCell' = true) := Lib.hid (fun u hu => (Array.all_eq_true_iff_forall_mem.1 f.cs_one) u (by simpa using hu))
    have HMX : Hid (k + 1 ≤ maxLen) := Lib.hid (by unfold maxLen; omega)
    have HMB : Hid ((k + 1) * 112 ≤ 140737488355328) := Lib.hid (by omega)
    have HBS : Hid (w.heap.size + 3 ≤ (W5.alloc (.cells f.cs.toArray 34)).heap.size) := Lib.hid (by have := HT5.out.size; rw [World.size_alloc]; omega)
    have HB5 := Lib.hid hB5
    have HD5 := Lib.hid hD5
    have HG5 := Lib.hid hg5
    have HF := Lib.hid hf
    have HH := Lib.hid h
    refine yield_round hrc h.loop _ rfl _ ?_
    have hfz := fz_zero
    clear hrc hfo hT4 hG4 hX4 hlt4 hX5 hT5' hB5 hf h hD5 hg5 hfs
    gi_wp2_with (first | (with_reducible refine wpListIn_store (w' := W4) (o := ⟨none, .store 34 (.tmp 5) (.tmp 7), _, _, _, none⟩) rfl 34 (.tmp 5) (.tmp 7) rfl W'.heap.size 0 (.agg f.cs.toArray) ?_ ?_ HS.out ?_) | (with_reducible refine wpListIn_load (o := ⟨some 9, .load 34 (.tmp 5), _, _, _, none⟩) rfl 34 (.tmp 5) rfl W'.heap.size 0 (.agg f.cs.toArray) ?_ HLF.out ?_) | (with_reducible refine wpListIn_buildOne (o := ⟨some 10, .buildSlice 24 1 #[(0, .tmp 9)], _, _, _, none⟩) rfl 24 34 (.tmp 9) rfl f.cs.toArray i0 (.agg fz) Try.underlying24 hi0 hz0 HSI.out HPO.out HSM.out ?_ ?_) | (refine wpListIn_append_rd rfl (.tmp 8) (.tmp 10) 24 rfl (w.heap.size + 3) 34 i0 (.agg fz) 28 112 Try.underlying24 hi0 hz0 hz1 hz2 rfl (by decide) (.slice av k cv) k (rowsOf Ft.cs (fs.take k)) rfl HOW5.out (some ⟨W5.heap.size, 0, none⟩) 1 1 f.cs rfl HRD5.out HML.out HMO.out HMX.out HMB.out HBS.out ?_))
    all_goals try rfl
    intro v6 w6 hown6 hgr6 hat6
    have h := HH.out
    obtain ⟨a6, c6, rfl, _, _, _⟩ := own_slice hown6
    have hs5 := HT5.out.size
    have hn5 : ∀ b, (Value.slice av k cv).ownBlock = some b → w.heap.size + 3 ≤ b := fun b hb => (own_typed HOW5.out hb).choose_spec.2.1
    have hn6 : ∀ b, (Value.slice a6 (k + 1) c6).ownBlock = some b → w.heap.size + 3 ≤ b := fun b hb => (own_typed hown6 hb).choose_spec.2.1
    have hB6 : At w6 w.heap.size 24 #[.slice av k cv] := (hgr6.block _ (by rw [World.size_alloc]; omega) (fun e => by have := hn5 _ e.symm; omega)).trans (HB5.out.alloc _)
    have c6' : w6.cell? ⟨w.heap.size, 0, none⟩ = some (.slice av k cv) := hB6.cell 0
    have f6' : w6.frozen? ⟨w.heap.size, 0, none⟩ = false := hB6.frozen 0
    obtain ⟨w7, hw7⟩ : ∃ w7, w6.setCell ⟨w.heap.size, 0, none⟩ (.slice a6 (k + 1) c6) = w7 := ⟨_, rfl⟩
    have hL6 : w6.heap[w.heap.size + 2]? = some (.loop (rc .busy)) := (hgr6.block _ (by rw [World.size_alloc]; omega) (fun e => by have := hn5 _ e.symm; omega)).trans ((RowKit.Below.heap_alloc _ _ _ (by omega)).trans HL5.out)
    have HL7 : Hid (w7.heap[w.heap.size + 2]? = some (.loop (rc .busy))) := Lib.hid (by rw [← hw7]; exact (RowKit.Below.heap_setCell _ _ _ _ (show w.heap.size + 2 ≠ w.heap.size by omega)).trans hL6)
    have hT7 : Turns O W' w7 O := by
      rw [← hw7]
      exact ((HT5.out.grows ((Grows.refl _).alloc _)).grown hgr6 (fun b hb => .inl ((h.o b).2 (.inr (.inr hb))))).set (g := w.heap.size) (.inl ((h.o _).2 (.inl rfl))) 0 _
    have hT8 : Turns O W' (w7.putObj (w.heap.size + 2) (.loop (rc .ready))) O := hT7.put (g := w.heap.size + 2) (.inl ((h.o _).2 (.inr (.inl rfl)))) _
    have HT8 : Hid (Turns O W' (w7.putObj (w.heap.size + 2) (.loop (rc .ready))) (fun i => i = w.heap.size ∨ i = w.heap.size + 2 ∨ (Value.slice a6 (k + 1) c6).ownBlock = some i)) := Lib.hid ⟨hT8.os, hT8.tape, hT8.output, hT8.size, hT8.block, fun i hi => by
      rcases hi with h1 | h1 | h1
      · exact .inl ((h.o i).2 (.inl h1))
      · exact .inl ((h.o i).2 (.inr (.inl h1)))
      · rcases hat6 with h2 | h2
        · exact .inl ((h.o i).2 (.inr (.inr (h2 ▸ h1))))
        · rw [h2] at h1
          injection h1 with h1
          exact .inr (by omega)⟩
    have hOB : ∀ i, O i → w.heap.size ≤ i := fun i hi => by
      rcases (h.o i).1 hi with h1 | h1 | h1
      · omega
      · omega
      · have := hn5 _ h1; omega
    have HCJ : Hid (CJ w fs (rc .ready) (k + 1) (fun i => i = w.heap.size ∨ i = w.heap.size + 2 ∨ (Value.slice a6 (k + 1) c6).ownBlock = some i) (w7.putObj (w.heap.size + 2) (.loop (rc .ready))) (.slice a6 (k + 1) c6)) := Lib.hid (by
      refine ⟨?_, ?_, fun i => Iff.rfl, hT8.low h.g hOB, ?_, World.putObj_heap_same (Array.getElem?_eq_some_iff.1 HL7.out).1, Nat.le_trans h.size hT8.size⟩
      · rw [rows_take1 HF.out]
        refine own_keep hown6 (fun b hb => ?_)
        have := hn6 b hb
        rw [← hw7]
        exact (World.putObj_heap_other (by omega)).trans (RowKit.Below.heap_setCell _ _ _ _ (show b ≠ w.heap.size by omega))
      · rw [← hw7]
        exact At.putObj (hB6.set 0 _) (by omega) _
      · exact (hT8.block _ (by have := h.size; omega) (fun hc => by
          rcases (h.o _).1 hc with h1 | h1 | h1
          · omega
          · omega
          · have := hn5 _ h1; omega)).trans h.dfr)
    clear hown6 hgr6 hat6 h hB6 hL6 hT7 hT8 hn5 hn6 hOB HS HLF hL4 hW4 hW5
    gi_wp2
    exact ⟨HL7.out, _, ⟨_, HCJ.out⟩, HT8.out⟩
  · rintro e W2 ⟨⟨v, rfl⟩, O, v2, h⟩
    refine ⟨⟨_, rfl⟩, h.loop, ?_⟩
    obtain ⟨av, cv, rfl, _, _, _⟩ := own_slice h.own
    have hsz := h.size
    rw [hfs] at h
    obtain ⟨W7, hW7⟩ : ∃ W7, W2.putObj (w.heap.size + 1 + 1) (.loop (rc .exhausted)) = W7 := ⟨_, rfl⟩
    have hT7 : Turns (fun i => i = w.heap.size + 1 + 1) W2 W7 (fun i => i = w.heap.size + 1 + 1) := by rw [← hW7]; exact (Turns.refl (fun i => i = w.heap.size + 1 + 1) W2).put (g := w.heap.size + 1 + 1) (.inl rfl) _
    have h7 : W7.heap[w.heap.size + 1]? = some (.deferred (some [])) := (hT7.block _ (by omega) (by omega)).trans h.dfr
    have hB7 : At W7 w.heap.size 24 #[.slice av fs.length cv] := hT7.at h.box (by omega)
    have c7 : W7.cell? ⟨w.heap.size, 0, none⟩ = some (.slice av fs.length cv) := hB7.cell 0
    have hT8 : Turns (fun i => i = w.heap.size + 1 + 1 ∨ i = w.heap.size + 1) W2 (W7.putObj (w.heap.size + 1) (.deferred none)) (fun i => i = w.heap.size + 1 + 1 ∨ i = w.heap.size + 1) := by
      rw [← hW7]
      exact ((Turns.refl (fun i => i = w.heap.size + 1 + 1 ∨ i = w.heap.size + 1) W2).put (g := w.heap.size + 1 + 1) (.inl (.inl rfl)) _).put (g := w.heap.size + 1) (.inl (.inr rfl)) _
    have HG8 : Hid (Grows w (W7.putObj (w.heap.size + 1) (.deferred none))) := Lib.hid (hT8.low h.g (fun i hi => by omega))
    have HO8 : Hid ((W7.putObj (w.heap.size + 1) (.deferred none)).ownsRow w.heap.size 34 28 (.slice av fs.length cv) fs.length (rowsOf Ft.cs fs)) := Lib.hid (by
      have h1 := own_keep (w1 := W7.putObj (w.heap.size + 1) (.deferred none)) h.own (fun b hb => by
        obtain ⟨_, _, h2, h3⟩ := own_typed h.own hb
        exact hT8.block b h3 (by omega))
      rw [List.take_length] at h1
      refine ⟨h1.1, ?_⟩
      rcases h1.2 with h2 | ⟨g, cap', cur, q1, q2, q3⟩
      · exact .inl h2
      · exact .inr ⟨g, cap', cur, q1, by omega, q3⟩)
    have H7 := Lib.hid h7
    rw [hW7]
    clear hT7 hT8 h h7 hB7 hW7 hrc hsz
    gi_wp2
    refine ⟨by simp, .inl ⟨_, _, rfl, run_takeDeferred H7.out, ?_⟩⟩
    exact ⟨_, results_tmp rfl _ _ _, _, rfl, by rw [HFS.out]; exact HO8.out, HG8.out⟩
end Go.Proofs.Ytfigoeoimefngaa
