/-
  witness.view.faults: the iterator.
-/
import Derived.Test.YtfigoeoimefngaaWiH
namespace Go.Proofs.Ytfigoeoimefngaa
open Go.RowKit Go.Maps Go.Shelf
attribute [local go_sem] Oper.semAt_some

/-- The faults: the reads whose two values differ, each with its kind. -/
def kdF (L : List Sn) (f : Ft) : Ft := { f with k := kindF (decL L) f }
def badF (f : Ft) : Bool := !decide (f.want = f.got)
def wfs (L : List Sn) (k : Nat) : List Ft := (((readsF L).take k).filter badF).map (kdF L)
def wrongF (L : List Sn) : List Ft := ((readsF L).filter badF).map (kdF L)
theorem wfs_all (L : List Sn) : wfs L (readsF L).length = wrongF L := by unfold wfs wrongF; rw [List.take_length]
theorem wfs_zero (L : List Sn) : wfs L 0 = [] := rfl
theorem wfs_same {L : List Sn} {k : Nat} {f : Ft} (hf : (readsF L)[k]? = some f) (hb : badF f = false) : wfs L (k + 1) = wfs L k := by
  unfold wfs
  rw [List.take_add_one, hf]
  simp [hb]
theorem wfs_more {L : List Sn} {k : Nat} {f : Ft} (hf : (readsF L)[k]? = some f) (hb : badF f = true) : wfs L (k + 1) = wfs L k ++ [kdF L f] := by
  unfold wfs
  rw [List.take_add_one, hf]
  simp [hb]
theorem wfs_at {L : List Sn} {k : Nat} {f : Ft} (hf : (readsF L)[k]? = some f) (hb : badF f = true) : (wrongF L)[(wfs L k).length]? = some (kdF L f) := by
  have h1 : wrongF L = wfs L (k + 1) ++ (((readsF L).drop (k + 1)).filter badF).map (kdF L) := by
    unfold wrongF wfs
    rw [← List.map_append, ← List.filter_append, List.take_append_drop]
  rw [h1, wfs_more hf hb, List.append_assoc, List.getElem?_append_right (Nat.le_refl _), Nat.sub_self]
  rfl
/-- What a read is. -/
structure FtOk (f : Ft) : Prop where
  ok : f.ok
  n : f.n.ok
  was : f.was.ok
theorem lastN_ok (k : Wk) : ∀ (T : List Sn) (z : Nm), z.ok → (∀ x ∈ T, x.n.ok) → (T.foldl (fun a x => if x.k = 2 ∧ x.wk = k then x.n else a) z).ok
  | [], _, hz, _ => hz
  | x :: T, z, hz, h => by
    rw [List.foldl_cons]
    refine lastN_ok k T _ ?_ (fun y hy => h y (by simp [hy]))
    split
    · exact h x (by simp)
    · exact hz
theorem wasA_ok {L : List Sn} (hok : ∀ x ∈ L, x.n.ok ∧ x.wk.ok) (p : Nat) : (wasA L p).ok := by
  unfold wasA
  split
  · split
    · exact lastN_ok _ _ _ Nm.zero_ok (fun x hx => (hok x (List.mem_of_mem_take hx)).1)
    · exact Nm.zero_ok
  · exact Nm.zero_ok
theorem rdF_mem {L : List Sn} : ∀ (ps : List Nat) (s : List Int × List Nm) (f : Ft), f ∈ rdF L ps s → ∃ E p x R, ps = E ++ p :: R ∧ L[p]? = some x ∧ x.k ≠ 2 ∧ f = mkF L p x (stF L E s)
  | [], _, _, h => by simp [rdF] at h
  | p :: ps, s, f, h => by
    rw [rdF] at h
    cases hx : L[p]? with
    | none =>
      rw [hx] at h
      obtain ⟨E, q, x, R, h1, h2, h3, h4⟩ := rdF_mem ps s f h
      exact ⟨p :: E, q, x, R, by rw [h1]; rfl, h2, h3, by rw [h4, stF, hx]⟩
    | some y =>
      rw [hx] at h
      simp only [] at h
      by_cases hk : y.k = 2
      · rw [if_pos hk] at h
        obtain ⟨E, q, x, R, h1, h2, h3, h4⟩ := rdF_mem ps _ f h
        exact ⟨p :: E, q, x, R, by rw [h1]; rfl, h2, h3, by rw [h4, stF, hx]⟩
      · rw [if_neg hk] at h
        rcases List.mem_cons.1 h with h | h
        · exact ⟨[], p, y, ps, rfl, hx, hk, h⟩
        · obtain ⟨E, q, x, R, h1, h2, h3, h4⟩ := rdF_mem ps s f h
          refine ⟨p :: E, q, x, R, by rw [h1]; rfl, h2, h3, ?_⟩
          rw [h4, stF, hx]
          show _ = mkF L q x (stF L E (wstep y s))
          unfold wstep
          rw [if_neg hk]
theorem plsD_mem {L : List Sn} {p : Nat} (h : p ∈ plsD L) : ∃ x, L[p]? = some x ∧ x.n ∈ decL L ∧ rwB x = true := by
  unfold plsD at h
  obtain ⟨n, hn, hp⟩ := List.mem_flatMap.1 h
  obtain ⟨x, h1, h2, h3⟩ := pls_mem hp
  exact ⟨x, h1, by rw [h2]; exact hn, h3⟩
theorem readsF_ok {L : List Sn} (hm : mayB L = true) (hok : ∀ x ∈ L, x.n.ok ∧ x.wk.ok) {f : Ft} (h : f ∈ readsF L) : FtOk f := by
  obtain ⟨E, p, x, R, h1, h2, h3, rfl⟩ := rdF_mem _ _ _ h
  have hE : ∀ q ∈ E, ∃ x, L[q]? = some x ∧ rwB x = true := fun q hq => by
    obtain ⟨x, a, _, c⟩ := plsD_mem (L := L) (p := q) (by rw [h1]; simp [hq])
    exact ⟨x, a, c⟩
  obtain ⟨y, h4, _, h5⟩ := plsD_mem (L := L) (p := p) (by rw [h1]; simp)
  rw [h2] at h4
  injection h4 with h4
  subst h4
  have hb := rw_block hm h2 h5
  have hsz := szF_fold hm E (zer256, zer32) hE szF_zero
  have hx := hok x (List.mem_of_getElem? h2)
  exact ⟨⟨blk_len hsz.bl (by omega), x.val_len⟩, hx.1, wasA_ok hok p⟩
/-- Behind a change of blocks that are nobody's else. -/
theorem Kp.of_turns {b1 : Nat} {O O2 O' : Nat → Prop} {w w' : World} (h : Turns O2 w w' O') (hd : ∀ i, O2 i → ¬ (i < b1 ∨ O i)) : Kp b1 O w w' :=
  ⟨h.os, h.tape, h.output, h.size, fun i hi ho => h.block i hi (fun h2 => hd i h2 ho)⟩
theorem reads_any (a : Option Addr) (n cap : Nat) (a' : Option Addr) (d c' r : Nat) (w : World) : Calls Try.prog 30 #[.agg #[.slice a n cap, .slice a' d c', .map (some r), .map (some (r + 1)), .map (some (r + 2))]] w fun e w' =>
    e = .returned (.func (.func 38) #[] #[.pointer (some ⟨w.heap.size, 0, none⟩)]) ∧ w.alloc (.cells #[.slice a n cap, .slice a' d c', .map (some r), .map (some (r + 1)), .map (some (r + 2))] 63) = w' := by
  go_enter Try.func30, Try.ntmps30
  go_wp2_with fail
  go_ret
  exact ⟨rfl, rfl⟩
theorem faults_any (a : Option Addr) (n cap : Nat) (a' : Option Addr) (d c' r : Nat) (w : World) : Calls Try.prog 28 #[.agg #[.slice a n cap, .slice a' d c', .map (some r), .map (some (r + 1)), .map (some (r + 2))]] w fun e w' =>
    e = .returned (.func (.func 36) #[] #[.pointer (some ⟨w.heap.size, 0, none⟩)]) ∧ w.alloc (.cells #[.slice a n cap, .slice a' d c', .map (some r), .map (some (r + 1)), .map (some (r + 2))] 63) = w' := by
  go_enter Try.func28, Try.ntmps28
  go_wp2_with fail
  go_ret
  exact ⟨rfl, rfl⟩
/-- The state of faults$1 between two of its rounds: the consumer's, and its own four blocks. -/
structure FJ (J : Nat → (Nat → Prop) → World → Prop) (L : List Sn) (B lpo : Nat) (vs : Array Value) (rc : Loop) (k : Nat) (O : Nat → Prop) (W' : World) (O1 : Nat → Prop) : Prop where
  j : J (wfs L k).length O1 W'
  o : ∀ i, O i ↔ O1 i ∨ i = B + 3
  far : ∀ i, O1 i → i < B ∨ B + 4 ≤ i
  box : At W' B 75 #[.func (.yield lpo) #[] #[]]
  view : At W' (B + 1) 63 vs
  dfr : W'.heap[B + 2]? = some (.deferred (some []))
  loop : W'.heap[B + 3]? = some (.loop rc)
  size : B + 4 ≤ W'.heap.size
theorem FJ.keep {J : Nat → (Nat → Prop) → World → Prop} {L : List Sn} {B lpo : Nat} {vs : Array Value} {rc : Loop} {k : Nat} {O O1 : Nat → Prop} {W' W'' : World} (hJ : ∀ k O W' W'', J k O W' → Kp B O W' W'' → J k O W'')
    (h : FJ J L B lpo vs rc k O W' O1) (hk : Kp (B + 4) O W' W'') : FJ J L B lpo vs rc k O W'' O1 := by
  refine ⟨hJ _ _ _ _ h.j ⟨hk.os, hk.tape, hk.output, hk.size, fun i hi ho => hk.block i hi ?_⟩, h.o, h.far, ?_, ?_, ?_, ?_, Nat.le_trans h.size hk.size⟩
  · rcases ho with ho | ho
    · exact .inl (by omega)
    · exact .inr ((h.o i).2 (.inl ho))
  · exact (hk.block _ (by have := h.size; omega) (.inl (by omega))).trans h.box
  · exact (hk.block _ (by have := h.size; omega) (.inl (by omega))).trans h.view
  · exact (hk.block _ (by have := h.size; omega) (.inl (by omega))).trans h.dfr
  · exact (hk.block _ (by have := h.size; omega) (.inl (by omega))).trans h.loop
/-- Behind one round. -/
theorem FJ.next {J : Nat → (Nat → Prop) → World → Prop} {L : List Sn} {B lpo : Nat} {vs : Array Value} {rr rb : Loop} {k k' : Nat} {O O1 O1' : Nat → Prop} {W' W8 : World} (hJ : ∀ k O W' W'', J k O W' → Kp B O W' W'' → J k O W'')
    (h : FJ J L B lpo vs rr k O W' O1) (hT : Turns O W' W8 (fun i => O1' i ∨ i = B + 3)) (hl : W8.heap[B + 3]? = some (.loop rb)) (hj : J (wfs L k').length O1' W8) (hOO : ∀ i, O1' i → O1 i ∨ B + 4 ≤ i) :
    FJ J L B lpo vs rr k' (fun i => O1' i ∨ i = B + 3) (W8.putObj (B + 3) (.loop rr)) O1' ∧ Turns O W' (W8.putObj (B + 3) (.loop rr)) (fun i => O1' i ∨ i = B + 3) := by
  have hs := h.size
  have hfar : ∀ i, O1' i → i < B ∨ B + 4 ≤ i := fun i hi => by
    rcases hOO i hi with h1 | h1
    · exact h.far i h1
    · exact .inr h1
  have hno : ∀ i, i < B + 3 → B ≤ i → ¬ O i := fun i h1 h2 ho => by
    rcases (h.o i).1 ho with h3 | h3
    · rcases h.far i h3 with h4 | h4 <;> omega
    · omega
  have hlt := (Array.getElem?_eq_some_iff.1 hl).1
  refine ⟨⟨hJ _ _ _ _ hj ?_, fun i => Iff.rfl, hfar, ?_, ?_, ?_, World.putObj_heap_same hlt, ?_⟩, hT.put (.inl ((h.o _).2 (.inr rfl))) _⟩
  · refine Kp.of_turns (O2 := fun i => i = B + 3) (O' := fun i => i = B + 3) ((Turns.refl (fun i => i = B + 3) W8).put (g := B + 3) (.inl rfl) _) ?_
    rintro i rfl (h1 | h1)
    · omega
    · rcases hfar _ h1 with h2 | h2 <;> omega
  · exact (hT.at h.box (hno _ (by omega) (by omega))).putObj (by omega) _
  · exact (hT.at h.view (hno _ (by omega) (by omega))).putObj (by omega) _
  · exact (World.putObj_heap_other (by omega)).trans ((hT.block _ (by omega) (hno _ (by omega) (by omega))).trans h.dfr)
  · have := hT.size
    have e : (W8.putObj (B + 3) (.loop rr)).heap.size = W8.heap.size := by simp [World.putObj]
    rw [e]
    omega
theorem Ft.cs_want {f : Ft} (h : f.ok) : (f.cs.drop 5).take 8 = ivs f.want := by
  obtain ⟨p, x, b, want, got, sh, y, k⟩ := f
  obtain ⟨w0, w1, w2, w3, w4, w5, w6, w7, rfl⟩ := eight_of h.want
  obtain ⟨g0, g1, g2, g3, g4, g5, g6, g7, rfl⟩ := eight_of h.got
  rfl
theorem Ft.cs_got {f : Ft} (h : f.ok) : (f.cs.drop 13).take 8 = ivs f.got := by
  obtain ⟨p, x, b, want, got, sh, y, k⟩ := f
  obtain ⟨w0, w1, w2, w3, w4, w5, w6, w7, rfl⟩ := eight_of h.want
  obtain ⟨g0, g1, g2, g3, g4, g5, g6, g7, rfl⟩ := eight_of h.got
  rfl
theorem Ft.cs_kind {f : Ft} (h : f.ok) (k : Int) : f.cs.toArray.setIfInBounds 27 (.int .i8 k) = ({ f with k := k } : Ft).cs.toArray := by
  obtain ⟨p, x, b, want, got, sh, y, k'⟩ := f
  obtain ⟨w0, w1, w2, w3, w4, w5, w6, w7, rfl⟩ := eight_of h.want
  obtain ⟨g0, g1, g2, g3, g4, g5, g6, g7, rfl⟩ := eight_of h.got
  rfl
theorem Ft.cs_one (f : Ft) : f.cs.toArray.all (·.oneCell') = true := by
  refine all_oneCell_toArray (fun v hv => ?_)
  unfold Ft.cs Nm.cs at hv
  simp only [List.mem_append, List.mem_cons, List.not_mem_nil, or_false, ivs, List.mem_map] at hv
  rcases hv with ((((((rfl | rfl | rfl | rfl) | rfl) | ⟨z, _, rfl⟩) | ⟨z, _, rfl⟩) | rfl | rfl | rfl) | rfl | rfl | rfl) | rfl <;> rfl
theorem info_fault : (Try.prog.info? 34).map (·.size) = some 28 := by kernel_rfl
theorem info_val8 : (Try.prog.info? 31).map (·.size) = some 8 := by kernel_rfl
def fz : Array Value := #[.int .i64 0, .int .i64 0, .int .i64 0, .int .i64 0, .int .i64 0, .int .u8 0, .int .u8 0, .int .u8 0, .int .u8 0, .int .u8 0, .int .u8 0, .int .u8 0, .int .u8 0, .int .u8 0, .int .u8 0, .int .u8 0, .int .u8 0, .int .u8 0, .int .u8 0, .int .u8 0, .int .u8 0, .int .i64 0, .int .i64 0, .int .i64 0, .int .i64 0, .int .i64 0, .int .i64 0, .int .i8 0]
theorem fz_zero (W : World) : (zeroValue 34).run Try.prog W = .ok (.agg fz) W := by kernel_rfl
set_option maxRecDepth 100000 in
set_option maxHeartbeats 8000000 in
theorem faults1_any (lpo bl n0 : Nat) (a : Option Addr) (cap : Nat) (L : List Sn) (n : Nat) (hn : L.length = n) (hL : n ≤ 1000) (hm : mayB L = true) (hok : ∀ x ∈ L, x.n.ok ∧ x.wk.ok) (a' : Option Addr) (c' r : Nat) (V : Nm → Value) (W : World) (J : Nat → (Nat → Prop) → World → Prop) (O0 : Nat → Prop)
    (h0 : J 0 O0 W) (hO : ∀ k O W', J k O W' → W.heap.size ≤ W'.heap.size ∧ ∀ i, O i → i < W'.heap.size) (hJ : ∀ k O W' W'', J k O W' → Kp W.heap.size O W' W'' → J k O W'') (hV : ∀ k O W', J k O W' → VwB W' bl L a n cap a' c' r V) (hb : bl < W.heap.size)
    (hY : ∀ k O W' f, (wrongF L)[k]? = some f → J k O W' → YieldAt Fence.wide n0 Try.prog lpo #[.agg f.cs.toArray] W' fun e W2 => e = .returned (.bool true) ∧ ∃ O', J (k + 1) O' W2 ∧ Turns O W' W2 O') :
    CallsIn Fence.wide (n0 + 3) Try.prog 36 #[.func (.yield lpo) #[] #[], .pointer (some ⟨bl, 0, none⟩)] W fun e W' => (∃ v, e = .returned v) ∧ ∃ O, J (wrongF L).length O W' := by
  have HN := Lib.hid hn
  have HM := Lib.hid hm
  have HOK := Lib.hid hok
  have H0 := Lib.hid h0
  have HO := Lib.hid hO
  have HJ := Lib.hid hJ
  have HV := Lib.hid hV
  have HY := Lib.hid hY
  have HNL := Lib.hid hL
  have HBL := Lib.hid hb
  clear hn hm hok h0 hO hJ hV hY hL
  refine callsIn_of_wp_marks Try.func36 rfl trivial ?_ rfl
  simp only [Try.ntmps36, List.size_toArray, List.length_cons, List.length_nil, Nat.reduceAdd, Nat.reduceSub, Array.replicate_succ, Array.replicate_zero, List.push_toArray, List.append_toArray, List.nil_append, List.cons_append]
  have HVB := Lib.hid (HV.out _ _ _ H0.out)
  have v0 : W.cell? ⟨bl, 0, none⟩ = some (.slice a n cap) := HVB.out.box.cell 0
  have v1 : W.cell? ⟨bl, 1, none⟩ = some (.slice a' (decL L).length c') := HVB.out.box.cell 1
  have v2 : W.cell? ⟨bl, 2, none⟩ = some (.map (some r)) := HVB.out.box.cell 2
  have v3 : W.cell? ⟨bl, 3, none⟩ = some (.map (some (r + 1))) := HVB.out.box.cell 3
  have v4 : W.cell? ⟨bl, 4, none⟩ = some (.map (some (r + 2))) := HVB.out.box.cell 4
  gi_wp2_with (refine ⟨trivial, ?_⟩; gi_at_call 30; refine (callsIn_wide.2 (reads_any _ _ _ _ _ _ _ _)).mono ?_; rintro e w' ⟨rfl, rfl⟩)
  clear v0 v1 v2 v3 v4
  obtain ⟨B, hB⟩ : ∃ B, W.heap.size = B := ⟨_, rfl⟩
  obtain ⟨w3, hw3⟩ : ∃ w3, (W.alloc (.cells #[.func (.yield lpo) #[] #[]] 75)).alloc (.cells #[.slice a n cap, .slice a' (decL L).length c', .map (some r), .map (some (r + 1)), .map (some (r + 2))] 63) = w3 := ⟨_, rfl⟩
  have hs3 : w3.heap.size = B + 2 := by rw [← hw3, World.size_alloc, World.size_alloc, hB]
  have HG3 : Hid (Grows W w3) := Lib.hid (by rw [← hw3]; exact ((Grows.refl _).alloc _).alloc _)
  have HA0 : Hid (At w3 B 75 #[.func (.yield lpo) #[] #[]]) := Lib.hid (by rw [← hw3, ← hB]; exact (At.new W _ _).alloc _)
  have HA1 : Hid (At w3 (B + 1) 63 #[.slice a n cap, .slice a' (decL L).length c', .map (some r), .map (some (r + 1)), .map (some (r + 2))]) := Lib.hid (by
    have := At.new (W.alloc (.cells #[.func (.yield lpo) #[] #[]] 75)) 63 #[.slice a n cap, .slice a' (decL L).length c', .map (some r), .map (some (r + 1)), .map (some (r + 2))]
    rw [World.size_alloc, hB] at this
    rw [← hw3]; exact this)
  rw [hw3, hB]
  clear hw3
  refine wpIn_rf (gf := 38) (lb := #[.pointer (some ⟨B + 1, 0, none⟩)]) rfl (enters_of Try.func38 (by kernel_rfl) rfl) ?_
  intro fn
  generalize hrc : rcd fn (Act.tmps _) _ _ _ _ = rc
  rw [hs3]
  have HW1 : Hid (Grows w3 ((w3.alloc (.deferred (some []))).alloc (.loop (rc .ready)))) := Lib.hid (((Grows.refl _).alloc _).alloc _)
  have HL1 : Hid (((w3.alloc (.deferred (some []))).alloc (.loop (rc .ready))).heap[B + 3]? = some (.loop (rc .ready))) := Lib.hid (by
    have := World.alloc_heap_new (w3.alloc (.deferred (some []))) (.loop (rc .ready))
    rw [World.size_alloc, hs3] at this
    exact this)
  have HD1 : Hid (((w3.alloc (.deferred (some []))).alloc (.loop (rc .ready))).heap[B + 2]? = some (.deferred (some []))) := Lib.hid (by
    rw [← hs3]
    exact (RowKit.Below.heap_alloc _ _ _ (by simp)).trans (World.alloc_heap_new w3 _))
  have HS1 : Hid (((w3.alloc (.deferred (some []))).alloc (.loop (rc .ready))).heap.size = B + 4) := Lib.hid (by rw [World.size_alloc, World.size_alloc, hs3])
  clear hs3
  generalize (w3.alloc (.deferred (some []))).alloc (.loop (rc .ready)) = W1 at *
  rw [hB] at HJ HO
  have HG1 := Lib.hid (HG3.out.trans HW1.out)
  refine (reads1_any (B + 3) (B + 1) (n0 + 1) a cap L n HN.out HNL.out HM.out HOK.out a' c' r V W1
    (fun k O W' => ∃ O1, FJ J L B lpo #[.slice a n cap, .slice a' (decL L).length c', .map (some r), .map (some (r + 1)), .map (some (r + 2))] (rc .ready) k O W' O1)
    (fun _ => False) (fun i => O0 i ∨ i = B + 3) ?i0 ?iO ?iJ ?iV ?ib ?iY).mono ?_
  case i0 =>
    have hlt := (HO.out _ _ _ H0.out).2
    rw [hB] at hlt
    exact ⟨O0, HJ.out _ _ _ _ H0.out (Kp.grows HG1.out), fun i => Iff.rfl, fun i hi => .inl (hlt i hi), HA0.out.grows HW1.out, HA1.out.grows HW1.out, HD1.out, HL1.out, by rw [HS1.out]; omega⟩
  case iO =>
    rintro k O W' ⟨O1, h⟩
    rw [HS1.out]
    refine ⟨h.size, fun i hi => ?_⟩
    rcases (h.o i).1 hi with h1 | h1
    · exact (HO.out _ _ _ h.j).2 i h1
    · have := h.size; omega
  case iJ =>
    rintro k O W' W'' ⟨O1, h⟩ hk
    rw [HS1.out] at hk
    exact ⟨O1, h.keep HJ.out hk⟩
  case iV =>
    rintro k O W' ⟨O1, h⟩
    have hv := HV.out _ _ _ h.j
    exact ⟨h.view, hv.rd, hv.names, hv.vw⟩
  case ib => rw [HS1.out]; omega
  case iY =>
    rintro k O W' f hf ⟨O1, h⟩
    have hfo := readsF_ok HM.out HOK.out (List.mem_of_getElem? hf)
    have hsz := h.size
    have hX1 : B + 4 ≤ W'.heap.size := h.size
    obtain ⟨W4, hW4⟩ : ∃ W4, (W'.alloc (.cells fz 34)).setCells W'.heap.size 0 f.cs.toArray.toList = W4 := ⟨_, rfl⟩
    have hT4 : Turns O W' W4 O := by rw [← hW4]; exact Turns.sets (.inr (Nat.le_refl _)) _ 0 ((Turns.refl O W').alloc _)
    have hG4 : Grows W' W4 := by rw [← hW4]; exact (Turns.sets (O := fun i => i = W'.heap.size) (g := W'.heap.size) (.inl rfl) _ 0 ((Turns.refl _ W').alloc _)).low (Grows.refl W') (fun i hi => by omega)
    have hX4 : At W4 W'.heap.size 34 f.cs.toArray := by
      rw [← hW4]
      exact At.all (cs := fz.toList) (At.new W' _ _) (by rw [List.toList_toArray, Ft.cs_len hfo.ok]; rfl)
    have hL4 : W4.heap[B + 3]? = some (.loop (rc .ready)) := (hG4.block _ (by omega)).trans h.loop
    have hlt4 : B + 3 < W4.heap.size := (Array.getElem?_eq_some_iff.1 hL4).1
    obtain ⟨W5, hW5⟩ : ∃ W5, W4.putObj (B + 3) (.loop (rc .busy)) = W5 := ⟨_, rfl⟩
    have HT5 : Hid (Turns O W' W5 O) := Lib.hid (by rw [← hW5]; exact hT4.put (.inl ((h.o _).2 (.inr rfl))) _)
    have HL5 : Hid (W5.heap[B + 3]? = some (.loop (rc .busy))) := Lib.hid (by rw [← hW5]; exact World.putObj_heap_same hlt4)
    have hX5 : At W5 W'.heap.size 34 f.cs.toArray := by rw [← hW5]; exact hX4.putObj (by omega) _
    have hT5' : Turns (fun i => i = B + 3) W' W5 (fun i => i = B + 3) := by rw [← hW5]; exact ((Turns.refl (fun i => i = B + 3) W').grows hG4).put (g := B + 3) (.inl rfl) _
    have HJ5 : Hid (J (wfs L k).length O1 W5) := Lib.hid (HJ.out _ _ _ _ h.j (Kp.of_turns hT5' (by
      rintro i rfl (h1 | h1)
      · omega
      · rcases h.far _ h1 with h2 | h2 <;> omega)))
    have HV5 := Lib.hid (HV.out _ _ _ HJ5.out)
    have hB5 : At W5 B 75 #[.func (.yield lpo) #[] #[]] := by rw [← hW5]; exact (h.box.grows hG4).putObj (by omega) _
    have HS : Hid ((storeVar 34 ⟨W'.heap.size, 0, none⟩ (.agg f.cs.toArray)).run Try.prog (W'.alloc (.cells fz 34)) = .ok () W4) := Lib.hid (by
      rw [← hW4]
      exact run_storeVar_mid _ _ 0 _ _ ((At.new W' _ _).there 0 _ (by rw [List.size_toArray, Ft.cs_len hfo.ok]; exact Nat.le_refl _)) (by rw [List.size_toArray, Ft.cs_len hfo.ok]; exact info_fault) f.cs_one)
    have HLW : Hid ((loadVar 31 ⟨W'.heap.size, 5, none⟩).run Try.prog W5 = .ok (.agg (ivs f.want).toArray) W5) := Lib.hid (run_loadVar_mid W5 _ 5 _ _ _ (by rw [← Ft.cs_want hfo.ok]; exact hX5.range 5 8) Try.underlying31 rfl (by rw [ivs_len, hfo.ok.want]; exact info_val8))
    have HLG : Hid ((loadVar 31 ⟨W'.heap.size, 13, none⟩).run Try.prog W5 = .ok (.agg (ivs f.got).toArray) W5) := Lib.hid (run_loadVar_mid W5 _ 13 _ _ _ (by rw [← Ft.cs_got hfo.ok]; exact hX5.range 13 8) Try.underlying31 rfl (by rw [ivs_len, hfo.ok.got]; exact info_val8))
    have HLF : Hid ((loadVar 34 ⟨W'.heap.size, 0, none⟩).run Try.prog W5 = .ok (.agg f.cs.toArray) W5) := Lib.hid (run_loadVar_row W5 _ _ _ _ (0, 0) _ hX5 Try.underlying34 rfl (by rw [List.size_toArray, Ft.cs_len hfo.ok]; exact info_fault))
    have he : ∀ W, (Op.equalIn 10000 31 (.agg (ivs f.want).toArray) (.agg (ivs f.got).toArray)).run Try.prog W = .ok (decide (f.want = f.got)) W := fun W => eq8_any W f.want f.got hfo.ok.want hfo.ok.got
    have v0 : W5.cell? ⟨bl, 0, none⟩ = some (.slice a n cap) := HV5.out.box.cell 0
    have v1 : W5.cell? ⟨bl, 1, none⟩ = some (.slice a' (decL L).length c') := HV5.out.box.cell 1
    have v2 : W5.cell? ⟨bl, 2, none⟩ = some (.map (some r)) := HV5.out.box.cell 2
    have v3 : W5.cell? ⟨bl, 3, none⟩ = some (.map (some (r + 1))) := HV5.out.box.cell 3
    have v4 : W5.cell? ⟨bl, 4, none⟩ = some (.map (some (r + 2))) := HV5.out.box.cell 4
    have HX5 := Lib.hid hX5
    have HB5 := Lib.hid hB5
    have HFO := Lib.hid hfo
    have HF := Lib.hid hf
    have HH := Lib.hid h
    have HSZ := Lib.hid hX1
    refine yield_round hrc h.loop _ rfl _ ?_
    clear hrc hfo hT4 hG4 hX4 hlt4 hX5 hT5' hB5 hf h hX1
    have hfz := fz_zero
    by_cases hwg : f.want = f.got
    · have hd : decide (f.want = f.got) = true := by simp [hwg]
      have HBF : Hid (badF f = false) := Lib.hid (by unfold badF; simp [hwg])
      clear hwg
      gi_wp2_with (first | (with_reducible refine wpListIn_store (w' := W4) (o := ⟨none, .store 34 (.tmp 3) (.tmp 6), _, _, _, none⟩) rfl 34 (.tmp 3) (.tmp 6) rfl W'.heap.size 0 (.agg f.cs.toArray) ?_ ?_ HS.out ?_) | (with_reducible refine wpListIn_load (o := ⟨some 8, .load 31 (.tmp 7), _, _, _, none⟩) rfl 31 (.tmp 7) rfl W'.heap.size 5 (.agg (ivs f.want).toArray) ?_ HLW.out ?_) | (with_reducible refine wpListIn_load (o := ⟨some 10, .load 31 (.tmp 9), _, _, _, none⟩) rfl 31 (.tmp 9) rfl W'.heap.size 13 (.agg (ivs f.got).toArray) ?_ HLG.out ?_))
      all_goals try rfl
      have h := HH.out
      have hN := FJ.next (k' := k + 1) (O1' := O1) (rb := rc .busy) HJ.out h (HT5.out.wide (fun _ hi => hi) (fun i hi => .inr ((h.o i).2 hi))) HL5.out (by rw [wfs_same HF.out HBF.out]; exact HJ5.out) (fun i hi => .inl hi)
      exact ⟨HL5.out, _, ⟨_, hN.1⟩, hN.2⟩
    · have hd : decide (f.want = f.got) = false := by simp [hwg]
      have HBF : Hid (badF f = true) := Lib.hid (by unfold badF; simp [hwg])
      clear hwg
      gi_wp2_with (first | (with_reducible refine wpListIn_store (w' := W4) (o := ⟨none, .store 34 (.tmp 3) (.tmp 6), _, _, _, none⟩) rfl 34 (.tmp 3) (.tmp 6) rfl W'.heap.size 0 (.agg f.cs.toArray) ?_ ?_ HS.out ?_) | (with_reducible refine wpListIn_load (o := ⟨some 8, .load 31 (.tmp 7), _, _, _, none⟩) rfl 31 (.tmp 7) rfl W'.heap.size 5 (.agg (ivs f.want).toArray) ?_ HLW.out ?_) | (with_reducible refine wpListIn_load (o := ⟨some 10, .load 31 (.tmp 9), _, _, _, none⟩) rfl 31 (.tmp 9) rfl W'.heap.size 13 (.agg (ivs f.got).toArray) ?_ HLG.out ?_) | (with_reducible refine wpListIn_load (o := ⟨some 13, .load 34 (.tmp 3), _, _, _, none⟩) rfl 34 (.tmp 3) rfl W'.heap.size 0 (.agg f.cs.toArray) ?_ HLF.out ?_) | (refine ⟨trivial, ?_⟩; gi_at_call 37; refine (callsIn_wide.2 (kind_any (decL L) f HFO.out.ok ⟨HFO.out.n, HFO.out.was⟩ a n cap a' (decL L).length c' r W5 HV5.out.vw.rank)).mono ?_))
      all_goals try rfl
      rintro e w6 ⟨rfl, hg6⟩
      clear he hd v0 v1 v2 v3 v4 HLW HLG HLF HS hL4 hW4 hW5
      obtain ⟨X, hX⟩ : ∃ X, W'.heap.size = X := ⟨_, rfl⟩
      rw [hX]
      rw [hX] at HX5 HSZ
      have HO1 : Hid (¬ O1 X) := Lib.hid (fun hc => by have := (HO.out _ _ _ HH.out.j).2 _ hc; omega)
      obtain ⟨kd, hkd⟩ : ∃ kd, kindF (decL L) f = kd := ⟨_, rfl⟩
      have HKD : Hid (kdF L f = { f with k := kd }) := Lib.hid (by rw [← hkd]; rfl)
      rw [hkd]
      obtain ⟨W7, hW7⟩ : ∃ W7, w6.setCell ⟨X, 27, none⟩ (.int .i8 kd) = W7 := ⟨_, rfl⟩
      have hA6 := HX5.out.grows hg6
      have hA7 : At W7 X 34 (kdF L f).cs.toArray := by
        have := hA6.set 27 (.int .i8 kd)
        rw [Ft.cs_kind HFO.out.ok, hW7] at this
        rw [HKD.out]; exact this
      have hok7 : (kdF L f).ok := by rw [HKD.out]; exact ⟨HFO.out.ok.want, HFO.out.ok.got⟩
      have HLF7 : Hid ((loadVar 34 ⟨X, 0, none⟩).run Try.prog W7 = .ok (.agg (kdF L f).cs.toArray) W7) := Lib.hid (run_loadVar_row W7 _ _ _ _ (0, 0) _ hA7 Try.underlying34 rfl (by rw [List.size_toArray, Ft.cs_len hok7]; exact info_fault))
      have hB7 : At W7 B 75 #[.func (.yield lpo) #[] #[]] := by rw [← hW7]; exact (HB5.out.grows hg6).far (show B ≠ X by have := HSZ.out; omega) _
      have c7 : W7.cell? ⟨B, 0, none⟩ = some (.func (.yield lpo) #[] #[]) := hB7.cell 0
      obtain ⟨z27, c27⟩ := at_some hA6 (i := 27) (by rw [Ft.cs_len HFO.out.ok]; omega)
      have f27 : w6.frozen? ⟨X, 27, none⟩ = false := hA6.frozen _
      have hT7' : Turns (fun i => i = X) W5 W7 (fun i => i = X) := by rw [← hW7]; exact ((Turns.refl (fun i => i = X) W5).grows hg6).set (g := X) (.inl rfl) 27 _
      have HJ7 : Hid (J (wfs L k).length O1 W7) := Lib.hid (HJ.out _ _ _ _ HJ5.out (Kp.of_turns hT7' (by
        rintro i rfl (h1 | h1)
        · have := HSZ.out; omega
        · exact HO1.out h1)))
      have HT7 : Hid (Turns O W' W7 O) := Lib.hid (by rw [← hW7]; exact (HT5.out.grows hg6).set (g := X) (.inr (by omega)) 27 _)
      have HL7 : Hid (W7.heap[B + 3]? = some (.loop (rc .busy))) := Lib.hid ((hT7'.block _ (Array.getElem?_eq_some_iff.1 HL5.out).1 (by have := HSZ.out; omega)).trans HL5.out)
      obtain ⟨fn', tmps', assign', body', hy, hRd⟩ := HY.out _ _ W7 _ (wfs_at HF.out HBF.out) HJ7.out
      have HRd := Lib.hid hRd
      clear hRd hA6 hA7 hok7 hB7 hT7' hg6
      obtain ⟨fa, hfa⟩ : ∃ fa, (kdF L f).cs.toArray = fa := ⟨_, rfl⟩
      rw [hfa] at HLF7 hy
      clear hfa hkd
      gi_wp2_with (first | (with_reducible refine wpListIn_load (o := ⟨some 17, .load 34 (.tmp 3), _, _, _, none⟩) rfl 34 (.tmp 3) rfl X 0 (.agg fa) ?_ HLF7.out ?_) | (refine HRd.out.mono ?_; rintro e W8 ⟨rfl, O1', hj2, ht2⟩))
      all_goals try rfl
      have h := HH.out
      have hl8 : W8.heap[B + 3]? = some (.loop (rc .busy)) := (ht2.block _ (Array.getElem?_eq_some_iff.1 HL7.out).1 (fun hc => by rcases h.far _ hc with h2 | h2 <;> omega)).trans HL7.out
      have hs7 := HT7.out.size
      have hN := FJ.next (k' := k + 1) (O1' := O1') (rb := rc .busy) HJ.out h (HT7.out.trans (ht2.wide (O' := O) (O1' := fun i => O1' i ∨ i = B + 3) (fun i hi => (h.o i).2 (.inl hi)) (fun i hi => by
        rcases hi with h1 | h1
        · exact .inl h1
        · exact .inr ((h.o i).2 (.inr h1))))) hl8 (by rw [wfs_more HF.out HBF.out, List.length_append]; exact hj2) (fun i hi => by
        rcases ht2.own i hi with h1 | h1
        · exact .inl h1
        · have := HSZ.out; exact .inr (by omega))
      exact ⟨hl8, _, ⟨_, hN.1⟩, hN.2⟩
  · rintro e W2 ⟨⟨v, rfl⟩, ⟨O, O1, h⟩ | h⟩
    · refine ⟨⟨_, rfl⟩, h.loop, ?_⟩
      have h7 : (W2.putObj (B + 2 + 1) (.loop (rc .exhausted))).heap[B + 2]? = some (.deferred (some [])) := (World.putObj_heap_other (by omega)).trans h.dfr
      have HT : Turns (fun i => i = B + 2 + 1 ∨ i = B + 2) W2 ((W2.putObj (B + 2 + 1) (.loop (rc .exhausted))).putObj (B + 2) (.deferred none)) (fun i => i = B + 2 + 1 ∨ i = B + 2) :=
        ((Turns.refl (fun i => i = B + 2 + 1 ∨ i = B + 2) W2).put (g := B + 2 + 1) (.inl (.inl rfl)) _).put (g := B + 2) (.inl (.inr rfl)) _
      have HF : Hid (J (wrongF L).length O1 ((W2.putObj (B + 2 + 1) (.loop (rc .exhausted))).putObj (B + 2) (.deferred none))) := Lib.hid (by
        have := HJ.out _ _ _ _ h.j (Kp.of_turns HT (by
          rintro i hi (h1 | h1)
          · omega
          · rcases h.far _ h1 with h2 | h2 <;> omega))
        rwa [wfs_all] at this)
      have H7 := Lib.hid h7
      clear HT h h7 hrc
      gi_wp2
      refine ⟨by simp, .inl ⟨_, _, rfl, run_takeDeferred H7.out, ?_⟩⟩
      exact ⟨_, results_none rfl _ _ _, ⟨_, rfl⟩, _, HF.out⟩
    · exact h.elim
end Go.Proofs.Ytfigoeoimefngaa
