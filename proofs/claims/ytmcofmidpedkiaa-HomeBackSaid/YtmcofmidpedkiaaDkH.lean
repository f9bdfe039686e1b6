/-
  disk.Crash, at a plan of at most one line.
-/
import Derived.Test.YtmcofmidpedkiaaDkG
namespace Go.Proofs.Ytmcofmidpedkiaa
open Go.RowKit Go.Maps Go.Shelf
attribute [local go_sem] Oper.semAt_some

theorem run_copy_sec (w : World) (ty : TypeId) (g x : Nat) (cur : List Value) (t : TypeId) (hg : At w g t cur.toArray) (bs : Nat) (l : List Nat) (hl : l.length = 64) (hs : At w bs 5 (bys l).toArray) (hf : x + 64 ≤ cur.length) :
    ∃ w', (Builtin.copy_ #[28, 28] ty #[.slice (some ⟨g, x, none⟩) 64 64, .slice (some ⟨bs, 0, none⟩) 64 64]).run Try.prog w = .ok (.int .i64 64) w' ∧ At w' g t (spl cur x (bys l)).toArray ∧ w.grownBy w' (some g) := by
  have hr : Rd w (some ⟨bs, 0, none⟩) (bys l) := .inr ⟨bs, 0, rfl, hs.lt, fun i v hv => by rw [hs.cell, Nat.zero_add]; simpa using hv⟩
  have hrun := run_copy_row (P := Try.prog) w 28 28 ty 5 g x 64 64 ⟨bs, 0, none⟩ 64 64 cur.toArray t (bys l) Try.underlying28 u8_one hg (by rw [bys_length, hl]; rfl) (rd_adds hr _ rfl) (by rw [bys_length, hl]; simpa using hf) (bys_one l)
  rw [bys_length, hl] at hrun
  refine ⟨_, hrun, ?_, ⟨rfl, rfl, rfl, by simp [World.setRow], fun k _ hk => setRow_other w g k _ (fun e => hk (by rw [e]))⟩⟩
  have := setRow_heap w g _ (cur.take x ++ (bys l ++ cur.drop (x + (bys l).length))).toArray t _ hg
  rw [splice_spl] at this
  unfold At
  simpa [spl, bys_length, hl] using this
theorem At.putObj {w : World} {g : Nat} {t : TypeId} {cs : Array Value} (h : At w g t cs) {r : Nat} (hr : g ≠ r) (o : Obj) : At (w.putObj r o) g t cs := (World.putObj_heap_other hr).trans h
theorem put_size (w : World) (r : Nat) (o : Obj) : (w.putObj r o).heap.size = w.heap.size := by simp [World.putObj]

section
variable {w : World} {B : Nat} {O : Nat → Prop} {g : Nat} {dur : List Nat} {C : Nat → List (List Nat)}
set_option maxRecDepth 100000 in
set_option maxHeartbeats 1000000 in
theorem crash_one (h : Dk w B O g dur C false) (s n : Nat) (hs : s < 34) (hn1 : 1 ≤ n) (hn2 : n ≤ (C s).length) (hlen : (C s).length ≤ 1000000) (ab ao cap : Nat) (hp0 : w.cell? ⟨ab, ao, none⟩ = some (.int .i64 (s : Int))) (hp1 : w.cell? ⟨ab, ao + 1, none⟩ = some (.int .i64 (n : Int))) :
    Calls Try.prog 19 #[.pointer (some ⟨g, 0, none⟩), .slice (some ⟨ab, ao, none⟩) 1 cap] w fun e w' => e = .returned (.int .i64 0) ∧ Dk w' B O g (spl dur (s * 64) ((C s).getD (n - 1) [])) noC true ∧ Turns O w w' O := by
  obtain ⟨m, V, h1, h2, h3, h4, h5, h6, h7, h8⟩ := h
  have hcs : C s ≠ [] := fun e => by rw [e] at hn2; simp at hn2; omega
  obtain ⟨⟨sl, r1, r2⟩, b0, r3, r4⟩ := h6 s hs hcs
  obtain ⟨gb, cp, r5, r6, r7⟩ := own_form r1 (show 0 < (C s).length by omega)
  obtain ⟨sec, hsec⟩ : ∃ l, (C s)[n - 1]? = some l := ⟨_, List.getElem?_eq_getElem (by omega)⟩
  obtain ⟨sv, q1, q2⟩ := r2 _ _ hsec
  obtain ⟨bs, rfl, q3, q4⟩ := q2
  have hrow : w.cell? ⟨gb, n - 1, none⟩ = some (.slice (some ⟨bs, 0, none⟩) 64 64) := by
    rw [r5] at r1
    exact own_cell r1 q1
  have esec : (C s).getD (n - 1) [] = sec := by rw [List.getD_eq_getElem?_getD, hsec]; rfl
  rw [esec]
  have hlk : ∀ W, Grows w W → (Instr.lookup 54 (.map (some m)) (.int .i64 (s : Int)) false).run Try.prog W = .ok (.slice (some ⟨gb, 0, none⟩) (C s).length cp) W := fun W hW => by
    have := (h5.grows hW).look keyed Try.underlying54 (zsl W) (key_at s hs)
    rw [fC_at C V s hs, if_neg hcs, r5] at this
    exact this
  have hgm : g ≠ m := fun e => by
    obtain ⟨es, cl, hb⟩ := h5.block
    unfold At at h1
    rw [e, hb] at h1
    cases h1
  have hc2 := dk_cells h1 h2
  have hcA := hc2.1
  have hcB := hc2.2
  have hgl := h1.lt
  have hml := h5.lt
  have hbl := q4.lt
  have H1 := Lib.hid h1
  have H2 := Lib.hid h2
  have H5 := Lib.hid h5
  have H8 := Lib.hid h8
  have HLK := Lib.hid hlk
  have HROW := Lib.hid hrow
  have HQ3 := Lib.hid q3
  have HQ4 := Lib.hid q4
  have HP0 := Lib.hid hp0
  have HP1 := Lib.hid hp1
  have hbg : bs ≠ g := fun e => by
    unfold At at h1 q4
    rw [← e, q4] at h1
    injection h1 with h1
    injection h1 with _ h1
    exact absurd h1 (by decide)
  clear h1 h2 h5 h6 h7 h8 hc2 r1 r2 r3 r4 r5 r6 r7 hsec q1 q3 q4 hrow esec hlk hp0 hp1
  refine (callsIn_wide (n := 5)).1 ?_
  refine callsIn_of_wp_marks Try.func19 rfl trivial ?_ rfl
  simp only [Try.ntmps19, List.size_toArray, List.length_cons, List.length_nil, Nat.reduceAdd, Nat.reduceSub, Array.replicate_succ, Array.replicate_zero, List.push_toArray, List.append_toArray, List.nil_append, List.cons_append]
  gi_wp2_with (refine ⟨trivial, ?_⟩; gi_at_call 36; refine (callsIn_wide.2 (kept_any _ _ _ _ _)).mono ?_; rintro e w' ⟨rfl, rfl⟩)
  obtain ⟨w3, hw3⟩ : ∃ w3, w3 = ((w.alloc (.cells #[.pointer (some ⟨g, 0, none⟩)] 23)).alloc (.cells #[.pointer (some ⟨g, 0, none⟩)] 23)).alloc (.cells #[.slice (some ⟨ab, ao, none⟩) 1 cap] 49) := ⟨_, rfl⟩
  have HG3 : Hid (Grows w w3) := by show Grows w w3; rw [hw3]; exact (((Grows.refl _).alloc _).alloc _).alloc _
  have hs3 : w.heap.size + 3 ≤ w3.heap.size := by rw [hw3]; simp
  have HB0 : Hid (At w3 w.heap.size 23 #[.pointer (some ⟨g, 0, none⟩)]) := by show At _ _ _ _; rw [hw3]; exact ((At.new w _ _).alloc _).alloc _
  have HB1 : Hid (At w3 (w.heap.size + 1) 23 #[.pointer (some ⟨g, 0, none⟩)]) := by
    show At _ _ _ _
    have := (At.new (w.alloc (.cells #[.pointer (some ⟨g, 0, none⟩)] 23)) 23 #[.pointer (some ⟨g, 0, none⟩)]).alloc (.cells #[.slice (some ⟨ab, ao, none⟩) 1 cap] 49)
    rw [hw3]
    rwa [World.size_alloc] at this
  have HB2 : Hid (At w3 (w.heap.size + 1 + 1) 49 #[.slice (some ⟨ab, ao, none⟩) 1 cap]) := by
    show At _ _ _ _
    have := At.new ((w.alloc (.cells #[.pointer (some ⟨g, 0, none⟩)] 23)).alloc (.cells #[.pointer (some ⟨g, 0, none⟩)] 23)) 49 #[.slice (some ⟨ab, ao, none⟩) 1 cap]
    rw [hw3]
    rwa [World.size_alloc, World.size_alloc] at this
  rw [← hw3]
  clear hw3 hcA hcB
  have habl := World.block_lt_of_cell? w _ HP0.out
  have hgbl := World.block_lt_of_cell? w _ HROW.out
  refine wpIn_rf (gf := 43) (lb := #[.pointer (some ⟨w.heap.size + 1 + 1, 0, none⟩), .pointer (some ⟨w.heap.size + 1, 0, none⟩)]) rfl (enters_of Try.func43 (by kernel_rfl) rfl) ?_
  intro fn
  generalize hrc : rcd fn (Act.tmps _) _ _ _ _ = rc
  have HGW : Hid (Grows w3 ((w3.alloc (.deferred (some []))).alloc (.loop (rc .ready)))) := ((Grows.refl _).alloc _).alloc _
  have HL1 : Hid (((w3.alloc (.deferred (some []))).alloc (.loop (rc .ready))).heap[w3.heap.size + 1]? = some (.loop (rc .ready))) := by
    show _ = _
    have := World.alloc_heap_new (w3.alloc (.deferred (some []))) (.loop (rc .ready))
    rwa [World.size_alloc] at this
  have HD1 : Hid (((w3.alloc (.deferred (some []))).alloc (.loop (rc .ready))).heap[w3.heap.size]? = some (.deferred (some []))) := (RowKit.Below.heap_alloc _ _ _ (by simp)).trans (World.alloc_heap_new w3 _)
  generalize (w3.alloc (.deferred (some []))).alloc (.loop (rc .ready)) = W1 at *
  have hG1 := HG3.out.trans HGW.out
  refine (kept1_one (w3.heap.size + 1) g m (w.heap.size + 1) (w.heap.size + 1 + 1) bs gb cp 3 ab ao cap W1 s n (C s).length hs hn1 hn2 hlen ((HB1.out.grows HGW.out).cell 0) ((HB2.out.grows HGW.out).cell 0) ((hG1.cell _ _ habl).trans HP0.out) ((hG1.cell _ _ habl).trans HP1.out) ((hG1.cell _ _ hgl).trans (dk_cells H1.out H2.out).1) (fun W' hW' => HLK.out W' (hG1.trans hW')) ((hG1.cell _ _ hgbl).trans HROW.out)
    (fun W2 => W2.heap[w3.heap.size + 1]? = some (.loop (rc .ready)) ∧ W2.heap[w3.heap.size]? = some (.deferred (some [])) ∧ At W2 g 58 (dkc (spl dur (s * 64) sec) m false).toArray ∧ w.grownBy W2 (some g) ∧ At W2 w.heap.size 23 #[.pointer (some ⟨g, 0, none⟩)]) (fun W' hW' => ?_)).mono ?_
  · have hl' : W'.heap[w3.heap.size + 1]? = some (.loop (rc .ready)) := (hW'.block _ (by have := (Array.getElem?_eq_some_iff.1 HL1.out).1; exact this)).trans HL1.out
    have hd' : W'.heap[w3.heap.size]? = some (.deferred (some [])) := (hW'.block _ (Array.getElem?_eq_some_iff.1 HD1.out).1).trans HD1.out
    have hG' := hG1.trans hW'
    obtain ⟨W5, hW5⟩ : ∃ W5, W5 = W'.putObj (w3.heap.size + 1) (.loop (rc .busy)) := ⟨_, rfl⟩
    have hl5 : W5.heap[w3.heap.size + 1]? = some (.loop (rc .busy)) := by rw [hW5]; exact World.putObj_heap_same (Array.getElem?_eq_some_iff.1 hl').1
    have hd5 : W5.heap[w3.heap.size]? = some (.deferred (some [])) := by rw [hW5]; exact (World.putObj_heap_other (by omega)).trans hd'
    have hA5 : At W5 g 58 (dkc dur m false).toArray := by rw [hW5]; exact (H1.out.grows hG').putObj (by omega) _
    have hS5 : At W5 bs 5 (bys sec).toArray := by rw [hW5]; exact (HQ4.out.grows hG').putObj (by omega) _
    have hB5 : At W5 w.heap.size 23 #[.pointer (some ⟨g, 0, none⟩)] := by rw [hW5]; exact ((HB0.out.grows HGW.out).grows hW').putObj (by omega) _
    have hgr5 : w.grownBy W5 (some g) := by
      rw [hW5]
      exact ⟨hG'.os, hG'.tape, hG'.output, by rw [put_size]; exact hG'.size, fun k hk _ => (World.putObj_heap_other (by omega)).trans (hG'.block k hk)⟩
    obtain ⟨W6, hcp, hA6, hg6⟩ := run_copy_sec W5 3 g (s * 64) _ _ hA5 bs sec HQ3.out hS5 (by rw [dkc_length _ _ _ H2.out]; omega)
    have hb0 := hB5.cell 0
    simp only [List.getElem?_toArray, List.getElem?_cons_zero] at hb0
    have HFIN : Hid (W6.heap[w3.heap.size + 1]? = some (.loop (rc .busy)) ∧ (W6.putObj (w3.heap.size + 1) (.loop (rc .ready))).heap[w3.heap.size + 1]? = some (.loop (rc .ready)) ∧ (W6.putObj (w3.heap.size + 1) (.loop (rc .ready))).heap[w3.heap.size]? = some (.deferred (some [])) ∧ At (W6.putObj (w3.heap.size + 1) (.loop (rc .ready))) g 58 (dkc (spl dur (s * 64) sec) m false).toArray ∧ w.grownBy (W6.putObj (w3.heap.size + 1) (.loop (rc .ready))) (some g) ∧ At (W6.putObj (w3.heap.size + 1) (.loop (rc .ready))) w.heap.size 23 #[.pointer (some ⟨g, 0, none⟩)]) := by
      have hl6 : W6.heap[w3.heap.size + 1]? = some (.loop (rc .busy)) := (hg6.block _ (Array.getElem?_eq_some_iff.1 hl5).1 (by simp; omega)).trans hl5
      rw [dkc_spl _ _ _ _ _ (by rw [H2.out, HQ3.out]; omega)] at hA6
      refine ⟨hl6, World.putObj_heap_same (Array.getElem?_eq_some_iff.1 hl6).1, (World.putObj_heap_other (by omega)).trans ((hg6.block _ (Array.getElem?_eq_some_iff.1 hd5).1 (by simp; omega)).trans hd5), hA6.putObj (by omega) _, ?_, At.putObj ((hg6.block _ hB5.lt (by simp; omega)).trans hB5) (by omega) _⟩
      have := hgr5.andThen hg6 (fun j e => .inr e)
      exact ⟨this.os, this.tape, this.output, by rw [put_size]; exact this.size, fun k hk hne => (World.putObj_heap_other (by omega)).trans (this.block k hk hne)⟩
    have hs0 : (0 : Int) ≤ (s : Int) := by omega
    have hs1 : (s : Int) < 34 := by omega
    clear hl5 hd5 hA5 hS5 hB5 hgr5 hA6 hg6 hd'
    have HL' := Lib.hid hl'
    clear hl'
    refine yield_round hrc HL'.out _ rfl _ ?_
    clear hrc
    gi_wp2
    refine ⟨HL'.out, ?_⟩
    rw [← hW5]
    clear hW5
    gi_wp2
    exact HFIN.out
  · rintro e W2 ⟨⟨v, rfl⟩, r1, r2, r3, r4, r5⟩
    refine ⟨⟨_, rfl⟩, r1, ?_⟩
    obtain ⟨W7, hW7⟩ : ∃ W7, W7 = W2.putObj (w3.heap.size + 1) (.loop (rc .exhausted)) := ⟨_, rfl⟩
    have hd7 : W7.heap[w3.heap.size]? = some (.deferred (some [])) := by rw [hW7]; exact (World.putObj_heap_other (by omega)).trans r2
    have hA7 : At W7 g 58 (dkc (spl dur (s * 64) sec) m false).toArray := by rw [hW7]; exact r3.putObj (by omega) _
    have hB7 : At W7 w.heap.size 23 #[.pointer (some ⟨g, 0, none⟩)] := by rw [hW7]; exact r5.putObj (by omega) _
    have hgr7 : w.grownBy W7 (some g) := by
      rw [hW7]
      exact ⟨r4.os, r4.tape, r4.output, by rw [put_size]; exact r4.size, fun k hk hne => (World.putObj_heap_other (by omega)).trans (r4.block k hk hne)⟩
    rw [← hW7]
    clear hW7 r1 r2 r3 r4 r5 hrc
    have hlen2 : (spl dur (s * 64) sec).length = 2176 := by rw [spl_length _ _ _ (by rw [H2.out, HQ3.out]; omega), H2.out]
    obtain ⟨W8, hcl, hm8, ht8⟩ := (H5.out.same (hgr7.block m hml (fun e => hgm (by injection e with e; exact e.symm)))).clear Try.underlying54 0
    have g8 := ht8.grown
    have hA8 : At W8 g 58 (dkc (spl dur (s * 64) sec) m false).toArray := (g8.block g hA7.lt (fun e => hgm (by injection e))).trans hA7
    have hB8 : At W8 w.heap.size 23 #[.pointer (some ⟨g, 0, none⟩)] := (g8.block _ hB7.lt (by simp; omega)).trans hB7
    have hd8 : W8.heap[w3.heap.size]? = some (.deferred (some [])) := (g8.block _ (Array.getElem?_eq_some_iff.1 hd7).1 (by simp; omega)).trans hd7
    have hb7 := hB7.cell 0
    have hb8 := hB8.cell 0
    simp only [List.getElem?_toArray, List.getElem?_cons_zero] at hb7 hb8
    have hc7 := (dk_cells hA7 hlen2).1
    have hc8 := (dk_cells hA8 hlen2).2
    have hf8 := hA8.frozen 2177
    have HD9 : Hid ((W8.setCell ⟨g, 2177, none⟩ (.bool true)).heap[w3.heap.size]? = some (.deferred (some []))) := (RowKit.Below.heap_setCell _ _ _ _ (by simp; omega)).trans hd8
    have HFIN : Hid (Dk ((W8.setCell ⟨g, 2177, none⟩ (.bool true)).putObj w3.heap.size (.deferred none)) B O g (spl dur (s * 64) sec) noC true ∧ Turns O w ((W8.setCell ⟨g, 2177, none⟩ (.bool true)).putObj w3.heap.size (.deferred none)) O) := by
      have hsz : w.heap.size ≤ W8.heap.size := Nat.le_trans hgr7.size g8.size
      have hkeep : ∀ i, i < w.heap.size → i ≠ g → i ≠ m → ((W8.setCell ⟨g, 2177, none⟩ (.bool true)).putObj w3.heap.size (.deferred none)).heap[i]? = w.heap[i]? := fun i hi h1 h2 =>
        (World.putObj_heap_other (by omega)).trans ((RowKit.Below.heap_setCell _ _ _ _ h1).trans ((g8.block i (Nat.lt_of_lt_of_le hi hgr7.size) (fun e => h2 (by injection e))).trans (hgr7.block i hi (fun e => h1 (by injection e)))))
      refine ⟨⟨m, fun _ => undef, (set_down true hA8 hlen2).putObj (by omega) _, hlen2, h3, h4, ?_, fun x _ h => absurd rfl h, fun x y _ _ _ h => absurd rfl h, fun i hi => ?_⟩, ⟨g8.os.trans hgr7.os, g8.tape.trans hgr7.tape, g8.output.trans hgr7.output, by rw [put_size]; simpa using hsz, fun i hi ho => hkeep i hi (fun e => ho (e ▸ h3)) (fun e => ho (e ▸ h4)), fun i hi => .inl hi⟩⟩
      · rw [fC_no]
        exact (hm8.same (RowKit.Below.heap_setCell _ _ _ _ (Ne.symm hgm))).same (World.putObj_heap_other (by omega))
      · have := H8.out i hi
        rw [put_size]
        simp
        omega
    clear hA7 hB7 hgr7 hA8 hB8 hd7 hd8 hm8 ht8 g8
    gi_wp2
    refine ⟨by simp, .inl ⟨_, _, rfl, run_takeDeferred HD9.out, ?_⟩⟩
    exact ⟨_, results_tmp rfl _ _ _, rfl, HFIN.out⟩
set_option maxRecDepth 100000 in
set_option maxHeartbeats 1000000 in
theorem crash_none (h : Dk w B O g dur C false) (a : Option Addr) (cap : Nat) :
    Calls Try.prog 19 #[.pointer (some ⟨g, 0, none⟩), .slice a 0 cap] w fun e w' => e = .returned (.int .i64 0) ∧ Dk w' B O g dur noC true ∧ Turns O w w' O := by
  obtain ⟨m, V, h1, h2, h3, h4, h5, h6, h7, h8⟩ := h
  have hgm : g ≠ m := fun e => by
    obtain ⟨es, cl, hb⟩ := h5.block
    unfold At at h1
    rw [e, hb] at h1
    cases h1
  have hc2 := dk_cells h1 h2
  have hcA := hc2.1
  have hcB := hc2.2
  have hgl := h1.lt
  have hml := h5.lt
  have H1 := Lib.hid h1
  have H2 := Lib.hid h2
  have H5 := Lib.hid h5
  have H8 := Lib.hid h8
  clear h1 h2 h5 h6 h7 h8 hc2
  refine (callsIn_wide (n := 5)).1 ?_
  refine callsIn_of_wp_marks Try.func19 rfl trivial ?_ rfl
  simp only [Try.ntmps19, List.size_toArray, List.length_cons, List.length_nil, Nat.reduceAdd, Nat.reduceSub, Array.replicate_succ, Array.replicate_zero, List.push_toArray, List.append_toArray, List.nil_append, List.cons_append]
  gi_wp2_with (refine ⟨trivial, ?_⟩; gi_at_call 36; refine (callsIn_wide.2 (kept_any _ _ _ _ _)).mono ?_; rintro e w' ⟨rfl, rfl⟩)
  obtain ⟨w3, hw3⟩ : ∃ w3, w3 = ((w.alloc (.cells #[.pointer (some ⟨g, 0, none⟩)] 23)).alloc (.cells #[.pointer (some ⟨g, 0, none⟩)] 23)).alloc (.cells #[.slice a 0 cap] 49) := ⟨_, rfl⟩
  have HG3 : Hid (Grows w w3) := by show Grows w w3; rw [hw3]; exact (((Grows.refl _).alloc _).alloc _).alloc _
  have hs3 : w.heap.size + 3 ≤ w3.heap.size := by rw [hw3]; simp
  have HB0 : Hid (At w3 w.heap.size 23 #[.pointer (some ⟨g, 0, none⟩)]) := by show At _ _ _ _; rw [hw3]; exact ((At.new w _ _).alloc _).alloc _
  have HB1 : Hid (At w3 (w.heap.size + 1) 23 #[.pointer (some ⟨g, 0, none⟩)]) := by
    show At _ _ _ _
    have := (At.new (w.alloc (.cells #[.pointer (some ⟨g, 0, none⟩)] 23)) 23 #[.pointer (some ⟨g, 0, none⟩)]).alloc (.cells #[.slice a 0 cap] 49)
    rw [hw3]
    rwa [World.size_alloc] at this
  have HB2 : Hid (At w3 (w.heap.size + 1 + 1) 49 #[.slice a 0 cap]) := by
    show At _ _ _ _
    have := At.new ((w.alloc (.cells #[.pointer (some ⟨g, 0, none⟩)] 23)).alloc (.cells #[.pointer (some ⟨g, 0, none⟩)] 23)) 49 #[.slice a 0 cap]
    rw [hw3]
    rwa [World.size_alloc, World.size_alloc] at this
  rw [← hw3]
  clear hw3 hcA hcB
  refine wpIn_rf (gf := 43) (lb := #[.pointer (some ⟨w.heap.size + 1 + 1, 0, none⟩), .pointer (some ⟨w.heap.size + 1, 0, none⟩)]) rfl (enters_of Try.func43 (by kernel_rfl) rfl) ?_
  intro fn
  generalize hrc : rcd fn (Act.tmps _) _ _ _ _ = rc
  have HGW : Hid (Grows w3 ((w3.alloc (.deferred (some []))).alloc (.loop (rc .ready)))) := ((Grows.refl _).alloc _).alloc _
  have HL1 : Hid (((w3.alloc (.deferred (some []))).alloc (.loop (rc .ready))).heap[w3.heap.size + 1]? = some (.loop (rc .ready))) := by
    show _ = _
    have := World.alloc_heap_new (w3.alloc (.deferred (some []))) (.loop (rc .ready))
    rwa [World.size_alloc] at this
  have HD1 : Hid (((w3.alloc (.deferred (some []))).alloc (.loop (rc .ready))).heap[w3.heap.size]? = some (.deferred (some []))) := (RowKit.Below.heap_alloc _ _ _ (by simp)).trans (World.alloc_heap_new w3 _)
  generalize (w3.alloc (.deferred (some []))).alloc (.loop (rc .ready)) = W1 at *
  have hG1 := HG3.out.trans HGW.out
  refine (kept1_nil (w3.heap.size + 1) (w.heap.size + 1) (w.heap.size + 1 + 1) 3 a cap W1 ((HB2.out.grows HGW.out).cell 0)).mono ?_
  rintro e W2 ⟨⟨v, rfl⟩, hG2⟩
  have r1 : W2.heap[w3.heap.size + 1]? = some (.loop (rc .ready)) := (hG2.block _ (Array.getElem?_eq_some_iff.1 HL1.out).1).trans HL1.out
  have r2 : W2.heap[w3.heap.size]? = some (.deferred (some [])) := (hG2.block _ (Array.getElem?_eq_some_iff.1 HD1.out).1).trans HD1.out
  have r3 := H1.out.grows (hG1.trans hG2)
  have r5 := (HB0.out.grows HGW.out).grows hG2
  have r4 : w.grownBy W2 (some g) := ⟨(hG1.trans hG2).os, (hG1.trans hG2).tape, (hG1.trans hG2).output, (hG1.trans hG2).size, fun k hk _ => (hG1.trans hG2).block k hk⟩
  refine ⟨⟨_, rfl⟩, r1, ?_⟩
  obtain ⟨W7, hW7⟩ : ∃ W7, W7 = W2.putObj (w3.heap.size + 1) (.loop (rc .exhausted)) := ⟨_, rfl⟩
  have hd7 : W7.heap[w3.heap.size]? = some (.deferred (some [])) := by rw [hW7]; exact (World.putObj_heap_other (by omega)).trans r2
  have hA7 : At W7 g 58 (dkc (dur) m false).toArray := by rw [hW7]; exact r3.putObj (by omega) _
  have hB7 : At W7 w.heap.size 23 #[.pointer (some ⟨g, 0, none⟩)] := by rw [hW7]; exact r5.putObj (by omega) _
  have hgr7 : w.grownBy W7 (some g) := by
    rw [hW7]
    exact ⟨r4.os, r4.tape, r4.output, by rw [put_size]; exact r4.size, fun k hk hne => (World.putObj_heap_other (by omega)).trans (r4.block k hk hne)⟩
  rw [← hW7]
  clear hW7 r1 r2 r3 r4 r5 hrc
  have hlen2 := H2.out
  obtain ⟨W8, hcl, hm8, ht8⟩ := (H5.out.same (hgr7.block m hml (fun e => hgm (by injection e with e; exact e.symm)))).clear Try.underlying54 0
  have g8 := ht8.grown
  have hA8 : At W8 g 58 (dkc (dur) m false).toArray := (g8.block g hA7.lt (fun e => hgm (by injection e))).trans hA7
  have hB8 : At W8 w.heap.size 23 #[.pointer (some ⟨g, 0, none⟩)] := (g8.block _ hB7.lt (by simp; omega)).trans hB7
  have hd8 : W8.heap[w3.heap.size]? = some (.deferred (some [])) := (g8.block _ (Array.getElem?_eq_some_iff.1 hd7).1 (by simp; omega)).trans hd7
  have hb7 := hB7.cell 0
  have hb8 := hB8.cell 0
  simp only [List.getElem?_toArray, List.getElem?_cons_zero] at hb7 hb8
  have hc7 := (dk_cells hA7 hlen2).1
  have hc8 := (dk_cells hA8 hlen2).2
  have hf8 := hA8.frozen 2177
  have HD9 : Hid ((W8.setCell ⟨g, 2177, none⟩ (.bool true)).heap[w3.heap.size]? = some (.deferred (some []))) := (RowKit.Below.heap_setCell _ _ _ _ (by simp; omega)).trans hd8
  have HFIN : Hid (Dk ((W8.setCell ⟨g, 2177, none⟩ (.bool true)).putObj w3.heap.size (.deferred none)) B O g (dur) noC true ∧ Turns O w ((W8.setCell ⟨g, 2177, none⟩ (.bool true)).putObj w3.heap.size (.deferred none)) O) := by
    have hsz : w.heap.size ≤ W8.heap.size := Nat.le_trans hgr7.size g8.size
    have hkeep : ∀ i, i < w.heap.size → i ≠ g → i ≠ m → ((W8.setCell ⟨g, 2177, none⟩ (.bool true)).putObj w3.heap.size (.deferred none)).heap[i]? = w.heap[i]? := fun i hi h1 h2 =>
      (World.putObj_heap_other (by omega)).trans ((RowKit.Below.heap_setCell _ _ _ _ h1).trans ((g8.block i (Nat.lt_of_lt_of_le hi hgr7.size) (fun e => h2 (by injection e))).trans (hgr7.block i hi (fun e => h1 (by injection e)))))
    refine ⟨⟨m, fun _ => undef, (set_down true hA8 hlen2).putObj (by omega) _, hlen2, h3, h4, ?_, fun x _ h => absurd rfl h, fun x y _ _ _ h => absurd rfl h, fun i hi => ?_⟩, ⟨g8.os.trans hgr7.os, g8.tape.trans hgr7.tape, g8.output.trans hgr7.output, by rw [put_size]; simpa using hsz, fun i hi ho => hkeep i hi (fun e => ho (e ▸ h3)) (fun e => ho (e ▸ h4)), fun i hi => .inl hi⟩⟩
    · rw [fC_no]
      exact (hm8.same (RowKit.Below.heap_setCell _ _ _ _ (Ne.symm hgm))).same (World.putObj_heap_other (by omega))
    · have := H8.out i hi
      rw [put_size]
      simp
      omega
  clear hA7 hB7 hgr7 hA8 hB8 hd7 hd8 hm8 ht8 g8
  gi_wp2
  refine ⟨by simp, .inl ⟨_, _, rfl, run_takeDeferred HD9.out, ?_⟩⟩
  exact ⟨_, results_tmp rfl _ _ _, rfl, HFIN.out⟩
end
end Go.Proofs.Ytmcofmidpedkiaa
