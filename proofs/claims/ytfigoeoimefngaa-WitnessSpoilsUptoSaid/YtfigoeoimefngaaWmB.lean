/-
  witness.First.
-/
import Derived.Test.YtfigoeoimefngaaWmA
import Derived.Test.YtfigoeoimefngaaWiL
import Derived.Test.YtfigoeoimefngaaWiU
import Derived.Test.YtfigoeoimefngaaPr
namespace Go.Proofs.Ytfigoeoimefngaa
open Go.RowKit Go.Maps Go.Shelf
attribute [local go_sem] Oper.semAt_some

/-- The fault that stands first. -/
def frF (fs : List Ft) : Option Ft := fs.foldl (fun a f => match a with
  | none => some f
  | some g => if f.at_ < g.at_ then some f else some g) none
theorem frF_snoc (fs : List Ft) (f : Ft) : frF (fs ++ [f]) = match frF fs with
  | none => some f
  | some g => if f.at_ < g.at_ then some f else some g := by unfold frF; rw [List.foldl_append]; rfl
def zF : Ft := ⟨0, Nm.zero, 0, [0, 0, 0, 0, 0, 0, 0, 0], [0, 0, 0, 0, 0, 0, 0, 0], Nm.zero, Nm.zero, 0⟩
theorem zF_ok : zF.ok := ⟨rfl, rfl⟩
theorem zF_cs : zF.cs.toArray = fz := rfl
def frC (fs : List Ft) : Ft := (frF fs).getD zF
theorem frF_mem : ∀ (fs : List Ft) (g : Ft), frF fs = some g → g ∈ fs := by
  have key : ∀ (fs : List Ft) (a : Option Ft) (g : Ft), fs.foldl (fun a f => match a with | none => some f | some g => if f.at_ < g.at_ then some f else some g) a = some g → g ∈ fs ∨ a = some g := by
    intro fs
    induction fs with
    | nil => intro a g h; exact .inr h
    | cons f fs ih =>
      intro a g h
      rw [List.foldl_cons] at h
      rcases ih _ g h with h1 | h1
      · exact .inl (by simp [h1])
      · cases a with
        | none => simp at h1; exact .inl (by simp [h1])
        | some x =>
          simp only [] at h1
          split at h1
          · simp at h1; exact .inl (by simp [h1])
          · exact .inr h1
  intro fs g h
  rcases key fs none g h with h1 | h1
  · exact h1
  · cases h1
theorem frC_ok {fs : List Ft} (h : ∀ f ∈ fs, f.ok) : (frC fs).ok := by
  unfold frC
  cases e : frF fs with
  | none => exact zF_ok
  | some g => exact h g (frF_mem fs g e)
theorem frF_some (fs : List Ft) : (frF fs).isSome = decide (0 < fs.length) := by
  have : ∀ n (l : List Ft), l.length = n → (frF l).isSome = decide (0 < l.length) := by
    intro n l hl
    cases n with
    | zero => rw [List.eq_nil_of_length_eq_zero hl]; rfl
    | succ n =>
      have hne : l ≠ [] := by rintro rfl; simp at hl
      rw [← List.dropLast_concat_getLast hne, frF_snoc]
      rw [decide_eq_true (by simp)]
      cases frF l.dropLast with
      | none => rfl
      | some g => simp only []; split <;> rfl
  exact this _ fs rfl
theorem fr_more {fs : List Ft} {k : Nat} {f : Ft} (h : fs[k]? = some f) : (k = 0 ∨ f.at_ < (frC (fs.take k)).at_ → frC (fs.take (k + 1)) = f) ∧ (¬ (k = 0 ∨ f.at_ < (frC (fs.take k)).at_) → frC (fs.take (k + 1)) = frC (fs.take k)) := by
  have hk := (List.getElem?_eq_some_iff.1 h).1
  have e : fs.take (k + 1) = fs.take k ++ [f] := by rw [List.take_add_one, h]; rfl
  have hs := frF_some (fs.take k)
  rw [List.length_take] at hs
  unfold frC
  rw [e, frF_snoc]
  cases hf : frF (fs.take k) with
  | none =>
    rw [hf] at hs
    have h0 : ¬ 0 < min k fs.length := of_decide_eq_false hs.symm
    have : k = 0 := by omega
    exact ⟨fun _ => rfl, fun hn => absurd (.inl this) hn⟩
  | some g =>
    rw [hf] at hs
    have h0 : 0 < min k fs.length := of_decide_eq_true hs.symm
    have : 0 < k := by omega
    simp only [Option.getD_some]
    refine ⟨fun hc => ?_, fun hc => ?_⟩
    · rw [if_pos (by rcases hc with hc | hc; omega; exact hc)]; rfl
    · rw [if_neg (fun hx => hc (.inr hx))]; rfl
theorem Grows.kp {w W W' : World} {b : Nat} {O : Nat → Prop} (h : Grows w W) (hb : w.heap.size ≤ b) (hk : Kp b O W W') : Grows w W' :=
  ⟨hk.os.trans h.os, hk.tape.trans h.tape, hk.output.trans h.output, Nat.le_trans h.size hk.size, fun i hi => (hk.block i (Nat.lt_of_lt_of_le hi h.size) (.inl (by omega))).trans (h.block i hi)⟩
theorem At.kp {W W' : World} {g : Nat} {t : TypeId} {cs : Array Value} {b : Nat} {O : Nat → Prop} (h : At W g t cs) (hb : g < b) (hk : Kp b O W W') : At W' g t cs := (hk.block _ h.lt (.inl hb)).trans h
/-- The state between two rounds. -/
structure FrC (w1 : World) (B : Nat) (vs : Array Value) (fs : List Ft) (k : Nat) (W : World) : Prop where
  g : Grows w1 W
  first : At W (B + 1) 34 (frC (fs.take k)).cs.toArray
  found : At W (B + 1 + 1) 4 #[.bool (decide (0 < k))]
  view : At W (B + 1 + 1 + 1) 63 vs
theorem step_load {P : Program} {w : World} {ops : Array Oper} {o : Oper} {a : Act} {K : Act → World → Prop} {Q : Exit → Act → World → Prop} {E : Prop} (hgd : o.guard = none) (ty : TypeId) (x : Operand) (ho : o.op = .load ty x)
    (b off : Nat) (v : Value) (hx : a.eval x = .pointer (some ⟨b, off, none⟩)) (hv : (loadVar ty ⟨b, off, none⟩).run P w = .ok v w)
    (hK : K (a.put o.dst v) w) : if Region.wanted o (yielded ops a.tmps) = true then Oper.wp P o a w K Q else E := by
  have hw : Region.wanted o (yielded ops a.tmps) = true := by simp [Region.wanted, hgd]
  rw [if_pos hw]
  unfold Oper.wp
  simp only [execOp, ho, hx, Instr.loadAt, Instr.sureAddr, Sem.run_bind, Sem.run_pure, Result.andThen_ok, hv]
  exact hK
def FirstP (L : List Sn) (w : World) (e : Ending) (w' : World) : Prop :=
  Grows w w' ∧ ((mayB L = false ∧ e = .returned (.tuple #[.agg zF.cs.toArray, .bool false])) ∨
    (mayB L = true ∧ e = .returned (.tuple #[.agg (frC (wrongF L)).cs.toArray, .bool (frF (wrongF L)).isSome])))
set_option maxRecDepth 100000 in
set_option maxHeartbeats 8000000 in
theorem first32_any (L : List Sn) (n : Nat) (hn : L.length = n) (hL : n ≤ 1000) (hok : ∀ x ∈ L, x.n.ok ∧ x.wk.ok) (a : Option Addr) (cap : Nat) (w : World) (hr : Rd w a (rowsOf Sn.cs L)) :
    Calls Try.prog 19 #[.slice a n cap] w (FirstP L w) := by
  have hfz := fz_zero
  have HLK := Lib.hid (fun W h => look_any L n hn hL hok a cap W h)
  have HR := Lib.hid hr
  have HN := Lib.hid hn
  have HNL := Lib.hid hL
  have HOK := Lib.hid hok
  clear hn hL hok hr
  have HG0 : Hid (Grows w (w.alloc (.cells fz 34))) := Lib.hid ((Grows.refl _).alloc _)
  have HA0 : Hid (At (w.alloc (.cells fz 34)) w.heap.size 34 fz) := Lib.hid (At.new _ _ _)
  refine (callsIn_wide (n := 5)).1 ?_
  refine callsIn_of_wp_marks Try.func19 rfl trivial ?_ rfl
  simp only [Try.ntmps19, List.size_toArray, List.length_cons, List.length_nil, Nat.reduceAdd, Nat.reduceSub, Array.replicate_succ, Array.replicate_zero, List.push_toArray, List.append_toArray, List.nil_append, List.cons_append]
  gi_wp2_with (refine ⟨trivial, ?_⟩; gi_at_call 26; refine (callsIn_wide.2 (HLK.out _ (HR.out.grows HG0.out))).mono ?_)
  generalize w.alloc (.cells fz 34) = w0 at *
  rintro e w1 ⟨hg, ⟨hm, rfl⟩ | ⟨hm, a', c', r, V, rfl, h1, h2, h3, h4⟩⟩
  · have HM := Lib.hid hm
    have HG := Lib.hid (HG0.out.trans hg)
    have HA1 := Lib.hid (HA0.out.grows hg)
    clear hm hg HLK HG0 HA0
    have HT : Hid ((w1.alloc (.cells #[.slice none 0 0, .slice none 0 0, .map none, .map none, .map none] 63)).there w.heap.size 0 fz.size) := Lib.hid ((HA1.out.alloc _).there 0 _ (Nat.le_of_eq (Nat.zero_add _)))
    have HS : Hid ((storeVar 34 ⟨w.heap.size, 0, none⟩ (.agg fz)).run Try.prog (w1.alloc (.cells #[.slice none 0 0, .slice none 0 0, .map none, .map none, .map none] 63)) = .ok () ((w1.alloc (.cells #[.slice none 0 0, .slice none 0 0, .map none, .map none, .map none] 63)).setCells w.heap.size 0 fz.toList)) := Lib.hid (run_storeVar_mid _ _ 0 _ _ HT.out info_fault zF.cs_one)
    gi_wp2_with (with_reducible refine wpListIn_store (w' := (w1.alloc (.cells #[.slice none 0 0, .slice none 0 0, .map none, .map none, .map none] 63)).setCells w.heap.size 0 fz.toList) (o := ⟨none, .store 34 (.tmp 2) (.tmp 16), _, _, _, none⟩) rfl 34 (.tmp 2) (.tmp 16) rfl w.heap.size 0 (.agg fz) ?_ ?_ HS.out ?_)
    all_goals try rfl
    have hAF : At ((w1.alloc (.cells #[.slice none 0 0, .slice none 0 0, .map none, .map none, .map none] 63)).setCells w.heap.size 0 fz.toList) w.heap.size 34 fz := At.all (cs := fz.toList) (vs := fz.toList) (HA1.out.alloc _) rfl
    exact ⟨_, results_row_tmp (ty := 34) Try.results19 _ _ w.heap.size 34 fz _ rfl hAF Try.underlying34 rfl info_fault, Grows.setCells (Nat.le_refl _) _ _ (HG.out.alloc _), .inl ⟨HM.out, rfl⟩⟩
  · have HM := Lib.hid hm
    have HG := Lib.hid (HG0.out.trans hg)
    have HA1 := Lib.hid (HA0.out.grows hg)
    have HRV := Lib.hid ((HR.out.grows HG0.out).grows hg)
    have HNV := Lib.hid h3
    have HVW := Lib.hid h4
    unfold vwv
    clear hm hg h1 h2 h3 h4 HLK HG0 HA0
    gi_wp2_with (refine ⟨trivial, ?_⟩; gi_at_call 28; refine (callsIn_wide.2 (faults_any _ _ _ _ _ _ _ _)).mono ?_; rintro e w' ⟨rfl, rfl⟩)
    obtain ⟨B, hB⟩ : ∃ B, w1.heap.size = B := ⟨_, rfl⟩
    obtain ⟨vs, hvs⟩ : ∃ vs : Array Value, #[.slice a n cap, .slice a' (decL L).length c', .map (some r), .map (some (r + 1)), .map (some (r + 2))] = vs := ⟨_, rfl⟩
    have HVS : Hid ((vwv a n cap a' (decL L).length c' r).toArray = vs) := Lib.hid hvs
    rw [hvs]
    clear hvs
    obtain ⟨w3, hw3⟩ : ∃ w3, (((w1.alloc (.cells vs 63)).alloc (.cells fz 34)).alloc (.cells #[.bool false] 4)).alloc (.cells vs 63) = w3 := ⟨_, rfl⟩
    have hs3 : w3.heap.size = B + 4 := by rw [← hw3]; simp only [World.size_alloc]; omega
    have HG3 : Hid (Grows w1 w3) := Lib.hid (by rw [← hw3]; exact ((((Grows.refl _).alloc _).alloc _).alloc _).alloc _)
    have HF3 : Hid (At w3 (B + 1) 34 fz) := Lib.hid (by
      have := At.new (w1.alloc (.cells vs 63)) 34 fz
      rw [World.size_alloc, hB] at this
      rw [← hw3]; exact (this.alloc _).alloc _)
    have HB3 : Hid (At w3 (B + 1 + 1) 4 #[.bool false]) := Lib.hid (by
      have := At.new ((w1.alloc (.cells vs 63)).alloc (.cells fz 34)) 4 #[.bool false]
      rw [World.size_alloc, World.size_alloc, hB] at this
      rw [← hw3]; exact this.alloc _)
    have HV3 : Hid (At w3 (B + 1 + 1 + 1) 63 vs) := Lib.hid (by
      have := At.new (((w1.alloc (.cells vs 63)).alloc (.cells fz 34)).alloc (.cells #[.bool false] 4)) 63 vs
      rw [World.size_alloc, World.size_alloc, World.size_alloc, hB] at this
      rw [← hw3]; exact this)
    rw [hw3, hB]
    clear hw3
    have HWB : Hid (w.heap.size < B) := Lib.hid (by rw [← hB]; exact HA1.out.lt)
    obtain ⟨fs, hfs⟩ : ∃ fs, wrongF L = fs := ⟨_, rfl⟩
    have HFS := Lib.hid hfs
    have HFO : Hid (∀ f ∈ fs, f.ok) := Lib.hid (by rw [← hfs]; exact wrongF_ok HM.out HOK.out)
    refine wpIn_faults 1 (B + 1 + 1 + 1) a cap L n HN.out HNL.out HM.out HOK.out a' c' r V w3 rfl (by omega) (FrC w1 B vs fs) (fun i => i = B + 1 ∨ i = B + 1 + 1) ?c1 ?c2 ?c3 ?c4 rfl ?c5 ?c6
    case c1 => intro i hi; omega
    case c2 => exact ⟨HG3.out, HF3.out, HB3.out, HV3.out⟩
    case c3 =>
      intro k W W' h hk
      rw [hs3] at hk
      exact ⟨h.g.kp (by omega) hk, h.first.kp (by omega) hk, h.found.kp (by omega) hk, h.view.kp (by omega) hk⟩
    case c4 =>
      intro k W h
      exact ⟨by rw [HVS.out]; exact h.view, HRV.out.grows h.g, HNV.out.grows h.g, HVW.out.grows h.g⟩
    case c5 =>
      intro fn k f W' rc hrc hf h hl hsz
      rw [hs3] at hl hsz ⊢
      rw [hfs] at hf
      have hfo : f.ok := HFO.out f (List.mem_of_getElem? hf)
      have HM1 := Lib.hid (fr_more hf)
      obtain ⟨g, hg⟩ : ∃ g, frC (fs.take k) = g := ⟨_, rfl⟩
      have hh := h.first
      rw [hg] at hh HM1
      obtain ⟨W4, hW4⟩ : ∃ W4, (W'.alloc (.cells fz 34)).setCells W'.heap.size 0 f.cs.toArray.toList = W4 := ⟨_, rfl⟩
      have hT4 : Turns (fun i => (i = B + 1 ∨ i = B + 1 + 1) ∨ i = B + 4 + 1) W' W4 (fun i => (i = B + 1 ∨ i = B + 1 + 1) ∨ i = B + 4 + 1) := by rw [← hW4]; exact Turns.sets (.inr (Nat.le_refl _)) _ 0 ((Turns.refl _ W').alloc _)
      have hG4 : Grows W' W4 := by rw [← hW4]; exact (Turns.sets (O := fun i => i = W'.heap.size) (g := W'.heap.size) (.inl rfl) _ 0 ((Turns.refl _ W').alloc _)).low (Grows.refl W') (fun i hi => by omega)
      have hX4 : At W4 W'.heap.size 34 f.cs.toArray := by
        rw [← hW4]
        exact At.all (cs := fz.toList) (At.new W' _ _) (by rw [List.toList_toArray, Ft.cs_len hfo]; rfl)
      have hL4 : W4.heap[B + 4 + 1]? = some (.loop (rc .ready)) := (hG4.block _ (by omega)).trans hl
      have hlt4 : B + 4 + 1 < W4.heap.size := (Array.getElem?_eq_some_iff.1 hL4).1
      obtain ⟨W5, hW5⟩ : ∃ W5, W4.putObj (B + 4 + 1) (.loop (rc .busy)) = W5 := ⟨_, rfl⟩
      have hT5 : Turns (fun i => (i = B + 1 ∨ i = B + 1 + 1) ∨ i = B + 4 + 1) W' W5 (fun i => (i = B + 1 ∨ i = B + 1 + 1) ∨ i = B + 4 + 1) := by rw [← hW5]; exact hT4.put (.inl (.inr rfl)) _
      have hT5' : Turns (fun i => i = B + 4 + 1) W' W5 (fun i => i = B + 4 + 1) := by rw [← hW5]; exact ((Turns.refl (fun i => i = B + 4 + 1) W').grows hG4).put (g := B + 4 + 1) (.inl rfl) _
      have HL5 : Hid (W5.heap[B + 4 + 1]? = some (.loop (rc .busy))) := Lib.hid (by rw [← hW5]; exact World.putObj_heap_same hlt4)
      have hX5 : At W5 W'.heap.size 34 f.cs.toArray := by rw [← hW5]; exact hX4.putObj (by omega) _
      have hF5 : At W5 (B + 1) 34 g.cs.toArray := hT5'.at hh (by omega)
      have hB5 : At W5 (B + 1 + 1) 4 #[.bool (decide (0 < k))] := hT5'.at h.found (by omega)
      have hV5 : At W5 (B + 1 + 1 + 1) 63 vs := hT5'.at h.view (by omega)
      have hg5 : Grows w1 W5 := hT5'.low h.g (fun i hi => by omega)
      have HS : Hid ((storeVar 34 ⟨W'.heap.size, 0, none⟩ (.agg f.cs.toArray)).run Try.prog (W'.alloc (.cells fz 34)) = .ok () W4) := Lib.hid (by
        rw [← hW4]
        exact run_storeVar_mid _ _ 0 _ _ ((At.new W' _ _).there 0 _ (by rw [List.size_toArray, Ft.cs_len hfo]; exact Nat.le_refl _)) (by rw [List.size_toArray, Ft.cs_len hfo]; exact info_fault) f.cs_one)
      have HLF : Hid ((loadVar 34 ⟨W'.heap.size, 0, none⟩).run Try.prog W5 = .ok (.agg f.cs.toArray) W5) := Lib.hid (run_loadVar_row W5 _ _ _ _ (0, 0) _ hX5 Try.underlying34 rfl (by rw [List.size_toArray, Ft.cs_len hfo]; exact info_fault))
      have hgl : g.cs.length = 28 := by
        have : g.ok := by rw [← hg]; exact frC_ok (fun x hx => HFO.out x (List.mem_of_mem_take hx))
        exact Ft.cs_len this
      obtain ⟨W6, hW6⟩ : ∃ W6, W5.setCells (B + 1) 0 f.cs.toArray.toList = W6 := ⟨_, rfl⟩
      have HS6 : Hid ((storeVar 34 ⟨B + 1, 0, none⟩ (.agg f.cs.toArray)).run Try.prog W5 = .ok () W6) := Lib.hid (by
        rw [← hW6]
        exact run_storeVar_mid _ _ 0 _ _ (hF5.there 0 _ (by rw [List.size_toArray, List.size_toArray, Ft.cs_len hfo, hgl]; exact Nat.le_refl _)) (by rw [List.size_toArray, Ft.cs_len hfo]; exact info_fault) f.cs_one)
      have hT6 : Turns (fun i => i = B + 1) W5 W6 (fun i => i = B + 1) := by rw [← hW6]; exact Turns.sets (O := fun i => i = B + 1) (g := B + 1) (.inl rfl) _ 0 (Turns.refl (fun i => i = B + 1) W5)
      have hF6 : At W6 (B + 1) 34 f.cs.toArray := by
        rw [← hW6]
        exact At.all (vs := f.cs.toArray.toList) (cs := g.cs) hF5 (by rw [List.toList_toArray, Ft.cs_len hfo, hgl])
      have hB6 : At W6 (B + 1 + 1) 4 #[.bool (decide (0 < k))] := hT6.at hB5 (by omega)
      have c6 : W6.cell? ⟨B + 1 + 1, 0, none⟩ = some (.bool (decide (0 < k))) := hB6.cell 0
      have f6 : W6.frozen? ⟨B + 1 + 1, 0, none⟩ = false := hB6.frozen 0
      have cX : W5.cell? ⟨W'.heap.size, 0, none⟩ = some (.int .i64 (f.at_ : Int)) := hX5.cell 0
      have cF : W5.cell? ⟨B + 1, 0, none⟩ = some (.int .i64 (g.at_ : Int)) := hF5.cell 0
      have cB : W5.cell? ⟨B + 1 + 1, 0, none⟩ = some (.bool (decide (0 < k))) := hB5.cell 0
      have hT7 : Turns (fun i => i = B + 1 ∨ i = B + 1 + 1) W5 (W6.setCell ⟨B + 1 + 1, 0, none⟩ (.bool true)) (fun i => i = B + 1 ∨ i = B + 1 + 1) := by
        rw [← hW6]
        exact (Turns.sets (.inl (.inl rfl)) _ 0 (Turns.refl _ W5)).set (g := B + 1 + 1) (.inl (.inr rfl)) 0 _
      have HL7 : Hid ((W6.setCell ⟨B + 1 + 1, 0, none⟩ (.bool true)).heap[B + 4 + 1]? = some (.loop (rc .busy))) := Lib.hid ((hT7.block _ (by have := hT5.size; omega) (by omega)).trans HL5.out)
      have HC7 : Hid ((k = 0 ∨ f.at_ < g.at_) → FrC w1 B vs fs (k + 1) (W6.setCell ⟨B + 1 + 1, 0, none⟩ (.bool true))) := Lib.hid (fun hc => ⟨hT7.low hg5 (fun i hi => by omega), by rw [HM1.out.1 hc]; exact ((Turns.refl (fun i => i = B + 1 + 1) W6).set (g := B + 1 + 1) (.inl rfl) 0 _).at hF6 (by omega), hB6.set 0 _, hT7.at hV5 (by omega)⟩)
      have HT7 : Hid (Turns (fun i => (i = B + 1 ∨ i = B + 1 + 1) ∨ i = B + 4 + 1) W' (W6.setCell ⟨B + 1 + 1, 0, none⟩ (.bool true)) (fun i => (i = B + 1 ∨ i = B + 1 + 1) ∨ i = B + 4 + 1)) := Lib.hid (by
        rw [← hW6]
        exact (Turns.sets (.inl (.inl (.inl rfl))) _ 0 hT5).set (g := B + 1 + 1) (.inl (.inl (.inr rfl))) 0 _)
      have HC5 : Hid (¬ (k = 0 ∨ f.at_ < g.at_) → FrC w1 B vs fs (k + 1) W5) := Lib.hid (fun hc => ⟨hg5, by rw [HM1.out.2 hc]; exact hF5, by rw [decide_eq_true (show 0 < k + 1 by omega)]; rw [decide_eq_true (show 0 < k by omega)] at hB5; exact hB5, hV5⟩)
      have HT5 := Lib.hid hT5
      clear hrc hf h hh hfo hg hT4 hG4 hX4 hlt4 hT5 hT5' hX5 hF5 hB5 hV5 hg5 hgl hT6 hF6 hB6 hT7 HM1 hs3 hfs hW4 hW6
      by_cases hk0 : k = 0
      · have hd : (decide (0 < k) : Bool) = false := decide_eq_false (by omega)
        rw [hd] at cB c6
        have HZ := Lib.hid (HC7.out (.inl hk0))
        clear hk0 hd HC7 HC5
        gi_wp2_with (with_reducible refine wpListIn_store (w' := W4) (o := ⟨none, .store 34 (.tmp 8) (.tmp 19), _, _, _, none⟩) rfl 34 (.tmp 8) (.tmp 19) rfl W'.heap.size 0 (.agg f.cs.toArray) ?_ ?_ HS.out ?_)
        all_goals try rfl
        refine ⟨hL4, ?_⟩
        rw [hW5]
        clear hL4 hW5
        gi_wp2_with (first | (with_reducible refine wpListIn_load (o := ⟨some 29, .load 34 (.tmp 8), _, _, _, none⟩) rfl 34 (.tmp 8) rfl W'.heap.size 0 (.agg f.cs.toArray) ?_ HLF.out ?_) | (with_reducible refine wpListIn_store (w' := W6) (o := ⟨none, .store 34 (.tmp 6) (.tmp 29), _, _, _, none⟩) rfl 34 (.tmp 6) (.tmp 29) rfl (B + 1) 0 (.agg f.cs.toArray) ?_ ?_ HS6.out ?_))
        all_goals try rfl
        exact ⟨HL7.out, HZ.out, HT7.out⟩
      · have hd : (decide (0 < k) : Bool) = true := decide_eq_true (by omega)
        rw [hd] at cB c6
        by_cases hlt : f.at_ < g.at_
        · have hlt' : decide (f.at_ < g.at_) = true := decide_eq_true hlt
          have HZ := Lib.hid (HC7.out (.inr hlt))
          clear hk0 hd HC7 HC5 hlt
          gi_wp2_with (with_reducible refine wpListIn_store (w' := W4) (o := ⟨none, .store 34 (.tmp 8) (.tmp 19), _, _, _, none⟩) rfl 34 (.tmp 8) (.tmp 19) rfl W'.heap.size 0 (.agg f.cs.toArray) ?_ ?_ HS.out ?_)
          all_goals try rfl
          refine ⟨hL4, ?_⟩
          rw [hW5]
          clear hL4 hW5
          gi_wp2_with (first | (with_reducible refine wpListIn_load (o := ⟨some 29, .load 34 (.tmp 8), _, _, _, none⟩) rfl 34 (.tmp 8) rfl W'.heap.size 0 (.agg f.cs.toArray) ?_ HLF.out ?_) | (with_reducible refine wpListIn_store (w' := W6) (o := ⟨none, .store 34 (.tmp 6) (.tmp 29), _, _, _, none⟩) rfl 34 (.tmp 6) (.tmp 29) rfl (B + 1) 0 (.agg f.cs.toArray) ?_ ?_ HS6.out ?_))
          all_goals try rfl
          exact ⟨HL7.out, HZ.out, HT7.out⟩
        · have hlt' : decide (f.at_ < g.at_) = false := decide_eq_false hlt
          have HZ := Lib.hid (HC5.out (by omega))
          clear hk0 hd HC7 HC5 hlt
          gi_wp2_with (with_reducible refine wpListIn_store (w' := W4) (o := ⟨none, .store 34 (.tmp 8) (.tmp 19), _, _, _, none⟩) rfl 34 (.tmp 8) (.tmp 19) rfl W'.heap.size 0 (.agg f.cs.toArray) ?_ ?_ HS.out ?_)
          all_goals try rfl
          refine ⟨hL4, ?_⟩
          rw [hW5]
          clear hL4 hW5
          gi_wp2
          exact ⟨HL5.out, HZ.out, HT5.out⟩
    case c6 =>
      intro W h hd hs
      rw [hs3] at hd hs ⊢
      rw [hfs] at h
      obtain ⟨g, hg⟩ : ∃ g, frC fs = g := ⟨_, rfl⟩
      have hgo : g.ok := by rw [← hg]; exact frC_ok HFO.out
      have hF := h.first
      rw [List.take_length, hg] at hF
      have cB : At W (B + 1 + 1) 4 #[.bool (decide (0 < fs.length))] := h.found
      rw [← frF_some] at cB
      have HA : Hid (At W w.heap.size 34 fz) := Lib.hid (HA1.out.grows h.g)
      have hgw : Grows w W := HG.out.trans h.g
      obtain ⟨b, hb⟩ : ∃ b, (frF fs).isSome = b := ⟨_, rfl⟩
      rw [hb] at cB
      have hgl : g.cs.toArray.size = 28 := by rw [List.size_toArray, Ft.cs_len hgo]
      have HGL := Lib.hid hgl
      have HWG : Hid (Grows w W ∧ At W (B + 1) 34 g.cs.toArray ∧ At W (B + 1 + 1) 4 #[.bool b] ∧ W.heap[B + 4]? = some (.deferred (some [])) ∧ ∃ cs, At W w.heap.size 34 cs ∧ cs.size = 28) := Lib.hid ⟨hgw, hF, cB, hd, fz, HA.out, rfl⟩
      have HFP : Hid (∀ W', Grows w W' → FirstP L w (.returned (.tuple #[.agg g.cs.toArray, .bool b])) W') := Lib.hid (fun W' h => ⟨h, .inr ⟨HM.out, by rw [hfs, hg, hb]⟩⟩)
      have HGO := Lib.hid hgo
      clear hF hgw h hb hd hg hgl HA cB hgo
      dsimp only
      gi_wp2
      refine wpIn_wide.2 ?_
      refine Prd.wp_region_pred (by kernel_rfl) (by kernel_rfl) (by kernel_rfl) _ (fun u => by simp only [List.map, Prd.frL, Act.put, List.setIfInBounds_toArray, List.set_cons_zero, List.set_cons_succ, Nat.zero_add, Nat.reduceAdd]; exact rfl)
        (Prd.pv #[.agg g.cs.toArray, .bool b, undef, .bool b] [(2, fun _ W => At W w.heap.size 34 g.cs.toArray)])
        (fun _ => none) (fun W => Grows w W ∧ At W (B + 1) 34 g.cs.toArray ∧ At W (B + 1 + 1) 4 #[.bool b] ∧ W.heap[B + 4]? = some (.deferred (some [])) ∧ ∃ cs, At W w.heap.size 34 cs ∧ cs.size = 28) (fun _ => True) none
        (fun i W W' => if i = 2 then W' = W.setCells w.heap.size 0 g.cs.toArray.toList else W' = W)
        ?g0 trivial (fun _ _ _ _ _ h => h) ?gr (Prd.pv_keep _ ⟨?m2, trivial⟩) ⟨?s0, ?s1, ?s2, ?s3, trivial⟩ ?dn
      case g0 =>
        obtain ⟨h1, h2, h3, h4, cs, h5, h6⟩ := HWG.out
        exact ⟨h1.drewN _, h2, h3, h4, cs, h5, h6⟩
      case gr =>
        rintro i W1 W2 h ⟨h1, h2, h3, h4, cs, h5, h6⟩
        split at h
        · subst h
          have hT : Turns (fun i => i = w.heap.size) W1 (W1.setCells w.heap.size 0 g.cs.toArray.toList) (fun i => i = w.heap.size) := Turns.sets (O := fun i => i = w.heap.size) (g := w.heap.size) (.inl rfl) _ 0 (Turns.refl _ W1)
          have hwb := HWB.out
          refine ⟨hT.low h1 (fun i hi => by omega), hT.at h2 (by omega), hT.at h3 (by omega), (hT.block _ (Array.getElem?_eq_some_iff.1 h4).1 (by omega)).trans h4, g.cs.toArray, ?_, HGL.out⟩
          exact At.all (vs := g.cs.toArray.toList) (cs := cs.toList) (by simpa using h5) (by rw [List.toList_toArray]; have := HGL.out; simp at this; simp [h6, this])
        · subst h
          exact ⟨h1, h2, h3, h4, cs, h5, h6⟩
      case m2 =>
        intro i v W1 W2 h1 h2 h3 h4 hp
        rw [if_neg h1] at h4
        rw [h4]
        exact hp
      case s0 =>
        intro u W hG _ _ hd K hK
        exact step_load rfl 34 (.tmp 6) rfl (B + 1) 0 (.agg g.cs.toArray) rfl (run_loadVar_row W _ _ _ _ (0, 0) _ hG.2.1 Try.underlying34 rfl (by rw [HGL.out]; exact info_fault)) (hK _ _ rfl rfl)
      case s1 =>
        intro u W hG _ _ hd K hK
        have cb := hG.2.2.1.cell
        clear hd hG
        dsimp only at hK ⊢
        go_simp
        exact hK _ _ rfl rfl
      case s2 =>
        intro u W hG _ _ hd K hK
        obtain ⟨d0, -⟩ := hd
        have e0 : u 0 = .agg g.cs.toArray := d0 rfl (.inl rfl)
        obtain ⟨h1, h2, h3, h4, cs, h5, h6⟩ := hG
        refine step_store_mid rfl 34 (.tmp 2) (.tmp 30) rfl w.heap.size 0 g.cs.toArray rfl e0 (h5.there 0 _ (by rw [HGL.out, h6]; exact Nat.le_refl _)) (by rw [HGL.out]; exact info_fault) g.cs_one (hK _ _ rfl ?_)
        exact At.all (vs := g.cs.toArray.toList) (cs := cs.toList) (by simpa using h5) (by rw [List.toList_toArray]; have := HGL.out; simp at this; simp [h6, this])
      case s3 =>
        intro u W hG _ _ hd K hK
        obtain ⟨d1, -⟩ := hd
        have e1 : u 1 = .bool b := d1 rfl (.inl rfl)
        clear d1 hG
        dsimp only at hK ⊢
        generalize u 1 = x1 at e1 hK ⊢
        subst e1
        go_simp
        exact hK _ _ rfl rfl
      case dn =>
        intro u W hG hall
        obtain ⟨-, -, d2, d3, -⟩ := hall
        have e3 : u 3 = .bool b := d3 rfl
        have hA := d2 rfl
        clear d2 d3
        obtain ⟨h1, -, -, h4, -⟩ := hG
        generalize u 3 = x3 at *
        subst e3
        have HA2 := Lib.hid hA
        have HD := Lib.hid h4
        have HG9 := Lib.hid h1
        clear hA h1 h4
        gi_wp2
        have hT : Turns (fun i => i = B + 4) W (W.putObj (B + 4) (.deferred none)) (fun i => i = B + 4) := (Turns.refl (fun i => i = B + 4) W).put (g := B + 4) (.inl rfl) _
        have hwb := HWB.out
        refine ⟨by simp, .inl ⟨_, _, rfl, run_takeDeferred HD.out, ?_⟩⟩
        exact ⟨_, results_row_tmp (ty := 34) Try.results19 _ _ w.heap.size 34 g.cs.toArray _ rfl (hT.at HA2.out (by omega)) Try.underlying34 rfl (by rw [HGL.out]; exact info_fault), HFP.out _ (hT.low HG9.out (fun i hi => by omega))⟩
end Go.Proofs.Ytfigoeoimefngaa
