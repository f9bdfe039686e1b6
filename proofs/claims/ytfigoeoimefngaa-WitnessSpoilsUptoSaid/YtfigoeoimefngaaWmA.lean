/-
  A range over a view's faults ¦ reads, the body never left early: an invariant of the consumer's serves.
-/
import Derived.Test.YtfigoeoimefngaaWiK
namespace Go.Proofs.Ytfigoeoimefngaa
open Go.RowKit Go.Maps Go.Shelf

set_option maxHeartbeats 1000000 in
theorem wpIn_faults {ps : Array Tmp} {assign body : Code} {Q : Exit → Act → World → Prop} {act : Act} {g : Operand} (n0 bl : Nat) (a : Option Addr) (cap : Nat) (L : List Sn) (n : Nat) (hn : L.length = n) (hL : n ≤ 1000) (hm : mayB L = true) (hok : ∀ x ∈ L, x.n.ok ∧ x.wk.ok) (a' : Option Addr) (c' r : Nat) (V : Nm → Value) (w3 : World)
    (hg : act.eval g = .func (.func 36) #[] #[.pointer (some ⟨bl, 0, none⟩)]) (hbl : bl < w3.heap.size)
    (C : Nat → World → Prop) (OC : Nat → Prop) (hOC : ∀ i, OC i → i < w3.heap.size) (hC0 : C 0 w3)
    (hCk : ∀ k W W', C k W → Kp w3.heap.size (fun _ => False) W W' → C k W') (hV : ∀ k W, C k W → VwB W bl L a n cap a' c' r V) (hps : ps.size = 1)
    (hround : ∀ fn k f W' rc, rcd fn act.tmps ps assign body w3.heap.size = rc → (wrongF L)[k]? = some f → C k W' → W'.heap[w3.heap.size + 1]? = some (.loop (rc .ready)) → w3.heap.size + 2 ≤ W'.heap.size →
      assign.wpIn (Fence.wide.inRound (w3.heap.size + 1)) n0 Try.prog (Exit.then (fun a1 W1 => W1.heap[w3.heap.size + 1]? = some (.loop (rc .ready)) ∧ body.wpIn (Fence.wide.inRound (w3.heap.size + 1)) n0 Try.prog
        (fun e _ W2 => e = .normal ∧ W2.heap[w3.heap.size + 1]? = some (.loop (rc .busy)) ∧ C (k + 1) W2 ∧ Turns (fun i => OC i ∨ i = w3.heap.size + 1) W' W2 (fun i => OC i ∨ i = w3.heap.size + 1)) a1 (W1.putObj (w3.heap.size + 1) (.loop (rc .busy)))) (fun _ _ _ => False))
      { tmps := (ps.zip #[.agg f.cs.toArray]).foldl (fun t (p, v) => t.setIfInBounds p v) act.tmps, defers := [] } W')
    (hend : ∀ W, C (wrongF L).length W → W.heap[w3.heap.size]? = some (.deferred (some [])) → w3.heap.size + 2 ≤ W.heap.size → Q .normal { act with defers := { target := .collected w3.heap.size, args := #[] } :: act.defers } W) :
    (Code.rangeFunc g ps assign body).wpIn Fence.wide (n0 + 3 + 1) Try.prog Q act w3 := by
  refine wpIn_rf (gf := 36) (lb := #[.pointer (some ⟨bl, 0, none⟩)]) hg (enters_of Try.func36 (by kernel_rfl) rfl) ?_
  intro fn
  generalize hrc : rcd fn act.tmps ps assign body w3.heap.size = rc
  have HW1 : Grows w3 ((w3.alloc (.deferred (some []))).alloc (.loop (rc .ready))) := ((Grows.refl _).alloc _).alloc _
  have HL1 : ((w3.alloc (.deferred (some []))).alloc (.loop (rc .ready))).heap[w3.heap.size + 1]? = some (.loop (rc .ready)) := by
    have := World.alloc_heap_new (w3.alloc (.deferred (some []))) (.loop (rc .ready))
    rw [World.size_alloc] at this
    exact this
  have HD1 : ((w3.alloc (.deferred (some []))).alloc (.loop (rc .ready))).heap[w3.heap.size]? = some (.deferred (some [])) :=
    (RowKit.Below.heap_alloc _ _ _ (by simp)).trans (World.alloc_heap_new w3 _)
  have HS1 : ((w3.alloc (.deferred (some []))).alloc (.loop (rc .ready))).heap.size = w3.heap.size + 2 := by rw [World.size_alloc, World.size_alloc]
  generalize (w3.alloc (.deferred (some []))).alloc (.loop (rc .ready)) = W1 at *
  have hput : ∀ W o, Kp w3.heap.size (fun _ => False) W (W.putObj (w3.heap.size + 1) o) := fun W o =>
    Kp.of_turns (O2 := fun i => i = w3.heap.size + 1) (O' := fun i => i = w3.heap.size + 1) ((Turns.refl (fun i => i = w3.heap.size + 1) W).put (g := w3.heap.size + 1) (.inl rfl) _) (by
      rintro i rfl (h1 | h1)
      · omega
      · exact h1)
  refine (faults1_any (w3.heap.size + 1) bl n0 a cap L n hn hL hm hok a' c' r V W1 (fun k O W' => C k W' ∧ O = (fun i => OC i ∨ i = w3.heap.size + 1) ∧ W'.heap[w3.heap.size]? = some (.deferred (some [])) ∧ W'.heap[w3.heap.size + 1]? = some (.loop (rc .ready)) ∧ w3.heap.size + 2 ≤ W'.heap.size)  (fun i => OC i ∨ i = w3.heap.size + 1) ?i0 ?iO ?iJ ?iV ?ib ?iY).mono ?_
  case i0 => exact ⟨hCk 0 w3 W1 hC0 (Kp.grows HW1), rfl, HD1, HL1, by omega⟩
  case iO =>
    rintro k O W' ⟨hc, rfl, hd, hl, hs⟩
    refine ⟨by omega, fun i hi => ?_⟩
    rcases hi with hi | hi
    · have := hOC i hi; omega
    · omega
  case iJ =>
    rintro k O W' W'' ⟨hc, rfl, hd, hl, hs⟩ hk
    rw [HS1] at hk
    exact ⟨hCk k W' W'' hc ⟨hk.os, hk.tape, hk.output, hk.size, fun i hi ho => hk.block i hi (.inl (by rcases ho with ho | ho; omega; exact ho.elim))⟩, rfl, (hk.block _ (by omega) (.inl (by omega))).trans hd, (hk.block _ (by omega) (.inl (by omega))).trans hl, Nat.le_trans hs hk.size⟩
  case iV =>
    rintro k O W' ⟨hc, _⟩
    exact hV k W' hc
  case ib => omega
  case iY =>
    rintro k O W' f hf ⟨hc, rfl, hd, hl, hs⟩
    refine yield_round hrc hl _ (by rw [hps]; rfl) _ ?_
    refine wpIn_mono (hround fn k f W' rc hrc hf hc hl hs) ?_
    intro e a1 W2 h1
    cases e with
    | normal =>
      obtain ⟨h2, h3⟩ := h1
      refine ⟨h2, wpIn_mono h3 ?_⟩
      rintro e a2 W3 ⟨rfl, h4, h5, h6⟩
      have hT := h6.put (g := w3.heap.size + 1) (.inl (.inr rfl)) (.loop (rc .ready))
      refine ⟨rfl, h4, ⟨rfl, _, ⟨hCk _ _ _ h5 (hput _ _), rfl, (hT.block _ (by omega) ?_).trans hd, World.putObj_heap_same (Array.getElem?_eq_some_iff.1 h4).1, Nat.le_trans hs hT.size⟩, hT⟩⟩
      rintro (h7 | h7)
      · have := hOC _ h7; omega
      · omega
    | _ => exact h1
  · rintro e W2 ⟨⟨v, rfl⟩, O, hc, rfl, hd, hl, hs⟩
    all_goals first | exact False.elim (by assumption) | exact ⟨⟨_, rfl⟩, hl, hend _ (hCk _ _ _ hc (hput _ _)) ((World.putObj_heap_other (by omega)).trans hd) (by simpa [World.putObj] using hs)⟩
set_option maxHeartbeats 1000000 in
theorem wpIn_reads {ps : Array Tmp} {assign body : Code} {Q : Exit → Act → World → Prop} {act : Act} {g : Operand} (n0 bl : Nat) (a : Option Addr) (cap : Nat) (L : List Sn) (n : Nat) (hn : L.length = n) (hL : n ≤ 1000) (hm : mayB L = true) (hok : ∀ x ∈ L, x.n.ok ∧ x.wk.ok) (a' : Option Addr) (c' r : Nat) (V : Nm → Value) (w3 : World)
    (hg : act.eval g = .func (.func 38) #[] #[.pointer (some ⟨bl, 0, none⟩)]) (hbl : bl < w3.heap.size)
    (C : Nat → World → Prop) (OC : Nat → Prop) (hOC : ∀ i, OC i → i < w3.heap.size) (hC0 : C 0 w3)
    (hCk : ∀ k W W', C k W → Kp w3.heap.size (fun _ => False) W W' → C k W') (hV : ∀ k W, C k W → VwB W bl L a n cap a' c' r V) (hps : ps.size = 1)
    (hround : ∀ fn k f W' rc, rcd fn act.tmps ps assign body w3.heap.size = rc → (readsF L)[k]? = some f → C k W' → W'.heap[w3.heap.size + 1]? = some (.loop (rc .ready)) → w3.heap.size + 2 ≤ W'.heap.size →
      assign.wpIn (Fence.wide.inRound (w3.heap.size + 1)) n0 Try.prog (Exit.then (fun a1 W1 => W1.heap[w3.heap.size + 1]? = some (.loop (rc .ready)) ∧ body.wpIn (Fence.wide.inRound (w3.heap.size + 1)) n0 Try.prog
        (fun e _ W2 => e = .normal ∧ W2.heap[w3.heap.size + 1]? = some (.loop (rc .busy)) ∧ C (k + 1) W2 ∧ Turns (fun i => OC i ∨ i = w3.heap.size + 1) W' W2 (fun i => OC i ∨ i = w3.heap.size + 1)) a1 (W1.putObj (w3.heap.size + 1) (.loop (rc .busy)))) (fun _ _ _ => False))
      { tmps := (ps.zip #[.agg f.cs.toArray]).foldl (fun t (p, v) => t.setIfInBounds p v) act.tmps, defers := [] } W')
    (hend : ∀ W, C (readsF L).length W → W.heap[w3.heap.size]? = some (.deferred (some [])) → w3.heap.size + 2 ≤ W.heap.size → Q .normal { act with defers := { target := .collected w3.heap.size, args := #[] } :: act.defers } W) :
    (Code.rangeFunc g ps assign body).wpIn Fence.wide (n0 + 1 + 1) Try.prog Q act w3 := by
  refine wpIn_rf (gf := 38) (lb := #[.pointer (some ⟨bl, 0, none⟩)]) hg (enters_of Try.func38 (by kernel_rfl) rfl) ?_
  intro fn
  generalize hrc : rcd fn act.tmps ps assign body w3.heap.size = rc
  have HW1 : Grows w3 ((w3.alloc (.deferred (some []))).alloc (.loop (rc .ready))) := ((Grows.refl _).alloc _).alloc _
  have HL1 : ((w3.alloc (.deferred (some []))).alloc (.loop (rc .ready))).heap[w3.heap.size + 1]? = some (.loop (rc .ready)) := by
    have := World.alloc_heap_new (w3.alloc (.deferred (some []))) (.loop (rc .ready))
    rw [World.size_alloc] at this
    exact this
  have HD1 : ((w3.alloc (.deferred (some []))).alloc (.loop (rc .ready))).heap[w3.heap.size]? = some (.deferred (some [])) :=
    (RowKit.Below.heap_alloc _ _ _ (by simp)).trans (World.alloc_heap_new w3 _)
  have HS1 : ((w3.alloc (.deferred (some []))).alloc (.loop (rc .ready))).heap.size = w3.heap.size + 2 := by rw [World.size_alloc, World.size_alloc]
  generalize (w3.alloc (.deferred (some []))).alloc (.loop (rc .ready)) = W1 at *
  have hput : ∀ W o, Kp w3.heap.size (fun _ => False) W (W.putObj (w3.heap.size + 1) o) := fun W o =>
    Kp.of_turns (O2 := fun i => i = w3.heap.size + 1) (O' := fun i => i = w3.heap.size + 1) ((Turns.refl (fun i => i = w3.heap.size + 1) W).put (g := w3.heap.size + 1) (.inl rfl) _) (by
      rintro i rfl (h1 | h1)
      · omega
      · exact h1)
  refine (reads1_any (w3.heap.size + 1) bl n0 a cap L n hn hL hm hok a' c' r V W1 (fun k O W' => C k W' ∧ O = (fun i => OC i ∨ i = w3.heap.size + 1) ∧ W'.heap[w3.heap.size]? = some (.deferred (some [])) ∧ W'.heap[w3.heap.size + 1]? = some (.loop (rc .ready)) ∧ w3.heap.size + 2 ≤ W'.heap.size) (fun _ => False) (fun i => OC i ∨ i = w3.heap.size + 1) ?i0 ?iO ?iJ ?iV ?ib ?iY).mono ?_
  case i0 => exact ⟨hCk 0 w3 W1 hC0 (Kp.grows HW1), rfl, HD1, HL1, by omega⟩
  case iO =>
    rintro k O W' ⟨hc, rfl, hd, hl, hs⟩
    refine ⟨by omega, fun i hi => ?_⟩
    rcases hi with hi | hi
    · have := hOC i hi; omega
    · omega
  case iJ =>
    rintro k O W' W'' ⟨hc, rfl, hd, hl, hs⟩ hk
    rw [HS1] at hk
    exact ⟨hCk k W' W'' hc ⟨hk.os, hk.tape, hk.output, hk.size, fun i hi ho => hk.block i hi (.inl (by rcases ho with ho | ho; omega; exact ho.elim))⟩, rfl, (hk.block _ (by omega) (.inl (by omega))).trans hd, (hk.block _ (by omega) (.inl (by omega))).trans hl, Nat.le_trans hs hk.size⟩
  case iV =>
    rintro k O W' ⟨hc, _⟩
    exact hV k W' hc
  case ib => omega
  case iY =>
    rintro k O W' f hf ⟨hc, rfl, hd, hl, hs⟩
    refine yield_round hrc hl _ (by rw [hps]; rfl) _ ?_
    refine wpIn_mono (hround fn k f W' rc hrc hf hc hl hs) ?_
    intro e a1 W2 h1
    cases e with
    | normal =>
      obtain ⟨h2, h3⟩ := h1
      refine ⟨h2, wpIn_mono h3 ?_⟩
      rintro e a2 W3 ⟨rfl, h4, h5, h6⟩
      have hT := h6.put (g := w3.heap.size + 1) (.inl (.inr rfl)) (.loop (rc .ready))
      refine ⟨rfl, h4, .inl <|⟨rfl, _, ⟨hCk _ _ _ h5 (hput _ _), rfl, (hT.block _ (by omega) ?_).trans hd, World.putObj_heap_same (Array.getElem?_eq_some_iff.1 h4).1, Nat.le_trans hs hT.size⟩, hT⟩⟩
      rintro (h7 | h7)
      · have := hOC _ h7; omega
      · omega
    | _ => exact h1
  · rintro e W2 ⟨⟨v, rfl⟩, ⟨O, hc, rfl, hd, hl, hs⟩ | hF⟩
    all_goals first | exact False.elim (by assumption) | exact ⟨⟨_, rfl⟩, hl, hend _ (hCk _ _ _ hc (hput _ _)) ((World.putObj_heap_other (by omega)).trans hd) (by simpa [World.putObj] using hs)⟩
end Go.Proofs.Ytfigoeoimefngaa
