/-
  Arguments that are flat (integers, bools, structs and arrays of them) and slices of flat elements, opened to their cells; over any program.
-/
import Derived.Test.YtpllcjggjjapoaaBase
import Derived.ProofKit
import Derived.OpenShut
import Derived.ChangeOld
import Derived.Deep.Slices
namespace Go.Proofs.Ytpllcjggjjapoaa
open Go.RowKit Go.ChangeShapes Go.WideShapes Go.ChangeAt Go.Deep

/-- What one cell of a flat type holds. -/
def CellFits (k : Option IntKind) (v : Value) : Prop :=
  match k with
  | some k => ∃ n, v = .int k n ∧ (Lit.int k n).wf = true
  | none => ∃ b, v = .bool b

/-- The kinds of a flat type's cells (none: a bool), with fuel; it asks that the fields lie one behind the other. -/
def flat (P : Program) : Nat → TypeId → Option (List (Option IntKind))
  | 0, _ => none
  | f + 1, t =>
    match P.underlying t with
    | some .bool => some [none]
    | some (.int k) => some [some k]
    | some (.array n e) =>
      match flat P f e with
      | some ks => if P.cellsOf e = ks.length ∧ P.cellsOf t = n * ks.length then some (List.replicate n ks).flatten else none
      | none => none
    | some (.struct fs) =>
      match fs.toList.mapM (fun g => flat P f g.type) with
      | some kss =>
        if P.cellsOf t = kss.flatten.length ∧ (fs.toList.map fun g => P.cellsOf g.type) = kss.map List.length ∧ (fs.toList.map fun g => g.offset) = (List.range kss.length).map fun i => ((kss.take i).map List.length).sum
        then some kss.flatten else none
      | none => none
    | _ => none

theorem mapM_at {α β : Type} {f : α → Option β} : ∀ {l : List α} {r : List β}, l.mapM f = some r → ∀ {i : Nat} (hi : i < l.length) {y : β}, r[i]? = some y → f l[i] = some y
  | [], _, _, i, hi, _, _ => by simp at hi
  | a :: l, r, h, i, hi, y, hy => by
    rw [List.mapM_cons] at h
    cases ha : f a with
    | none => simp [ha] at h
    | some b =>
      cases hl : l.mapM f with
      | none => simp [ha, hl] at h
      | some r' =>
        simp [ha, hl] at h
        subst h
        cases i with
        | zero => simpa [ha] using hy
        | succ i => exact mapM_at hl (by simpa using hi) (by simpa using hy)

def Fit : List (Option IntKind) → List Value → Prop
  | [], [] => True
  | k :: ks, v :: vs => CellFits k v ∧ Fit ks vs
  | _, _ => False

theorem Fit.length : ∀ {ks : List (Option IntKind)} {cs : List Value}, Fit ks cs → cs.length = ks.length
  | [], [], _ => rfl
  | _ :: _, _ :: _, h => by simp [Fit.length h.2]
  | [], _ :: _, h => h.elim
  | _ :: _, [], h => h.elim

theorem Fit.append : ∀ {ks ks' : List (Option IntKind)} {cs : List Value}, Fit ks (cs.take ks.length) → Fit ks' (cs.drop ks.length) → Fit (ks ++ ks') cs
  | [], _, _, _, h' => by simpa using h'
  | _ :: _, _, [], h, _ => by simp [Fit] at h
  | k :: ks, ks', v :: vs, h, h' => by
    simp only [List.length_cons, List.take_succ_cons, Fit] at h
    simp only [List.length_cons, List.drop_succ_cons] at h'
    exact ⟨h.1, Fit.append h.2 h'⟩

theorem Fit.nil {cs : List Value} (h : cs.length = 0) : Fit [] cs := by
  cases cs with
  | nil => trivial
  | cons v vs => simp at h

/-- Segments that fit, one behind the other. -/
theorem Fit.flatten : ∀ (kss : List (List (Option IntKind))) (cs : List Value), cs.length = kss.flatten.length →
    (∀ i ks, kss[i]? = some ks → Fit ks ((cs.drop ((kss.take i).map List.length).sum).take ks.length)) → Fit kss.flatten cs
  | [], cs, hl, _ => Fit.nil (by simpa using hl)
  | ks :: kss, cs, hl, h => by
    have h0 := h 0 ks rfl
    simp only [List.take_zero, List.map_nil, List.sum_nil, List.drop_zero] at h0
    rw [List.flatten_cons]
    refine Fit.append h0 (Fit.flatten kss _ ?_ fun i ks' hi => ?_)
    · simp only [List.flatten_cons, List.length_append] at hl
      rw [List.length_drop]
      omega
    · have := h (i + 1) ks' (by simpa using hi)
      simp only [List.take_succ_cons, List.map_cons, List.sum_cons] at this
      rw [List.drop_drop]
      exact this

theorem flat_len (len : Nat) (V : Nat → List Value) (c : Nat) (h : ∀ i, i < len → (V i).length = c) : ((List.range len).map V).flatten.length = len * c := by
  induction len with
  | zero => simp
  | succ n ih =>
    rw [List.range_succ, List.map_append, List.flatten_append, List.length_append, ih fun i hi => h i (by omega)]
    simp [h n (by omega), Nat.succ_mul]
theorem flat_at (len : Nat) (V : Nat → List Value) (c : Nat) (_ : 0 < c) (h : ∀ i, i < len → (V i).length = c) (q : Nat) (hq : q < len * c) : ((List.range len).map V).flatten[q]? = (V (q / c))[q % c]? := by
  induction len with
  | zero => simp at hq
  | succ n ih =>
    have hl := flat_len n V c fun i hi => h i (by omega)
    rw [List.range_succ, List.map_append, List.flatten_append]
    by_cases hlt : q < n * c
    · rw [List.getElem?_append_left (by omega), ih (fun i hi => h i (by omega)) hlt]
    · rw [List.getElem?_append_right (by omega), hl]
      have h1 : q / c = n := by
        apply Nat.div_eq_of_lt_le
        · omega
        · exact hq
      have h2 : q % c = q - n * c := by
        rw [Nat.mod_eq_sub_mul_div, h1, Nat.mul_comm]
      simp [h1, h2]

section
variable {H : Type} {enc : TypeId × Value → H} {P : Program} {w : World} {base : Nat} {spare : Nat → Bool} {held : Bool}

theorem flat_fits : ∀ (m : Nat) (t : TypeId) (ks : List (Option IntKind)) (fuel : Nat) (cs : List Value) (x : DataW H × List MemPlace),
    flat P m t = some ks → DataW.trod enc P w base spare held fuel t cs = some x → Fit ks cs := by
  intro m
  induction m with
  | zero => intro t ks fuel cs x h _; simp [flat] at h
  | succ m ih =>
    intro t ks fuel cs x h hx
    unfold flat at h
    split at h
    · rename_i hu
      obtain ⟨b, rfl, _⟩ := DataW.trod_bool hu hx
      injection h with h
      subst h
      exact ⟨⟨b, rfl⟩, trivial⟩
    · rename_i k hu
      obtain ⟨n, rfl, _, hn⟩ := DataW.trod_int hu hx
      injection h with h
      subst h
      exact ⟨⟨n, rfl, hn⟩, trivial⟩
    · rename_i n e hu
      split at h
      · rename_i ks' hk
        split at h
        · rename_i hc
          injection h with h
          subst h
          obtain ⟨xs, f, _, _, hl, hxl, hi⟩ := DataW.trod_array hu hx
          refine Fit.flatten _ _ (by simp [hl, hc.2]) fun i ks'' hi' => ?_
          have hin : i < n := by
            rcases Nat.lt_or_ge i n with hlt | hge
            · exact hlt
            · rw [List.getElem?_eq_none (by simpa using hge)] at hi'; cases hi'
          rw [List.getElem?_replicate, if_pos hin] at hi'
          injection hi' with hi'
          subst hi'
          have h1 := hi i hin
          rw [List.getElem?_eq_getElem (by omega), hc.1] at h1
          rw [show ((List.replicate n ks').take i |>.map List.length).sum = i * ks'.length by simp [List.take_replicate, Nat.min_eq_left (Nat.le_of_lt hin)]]
          exact ih e ks' f _ _ hk h1
        · cases h
      · cases h
    · rename_i fs hu
      split at h
      · rename_i kss hk
        split at h
        · rename_i hc
          injection h with h
          subst h
          obtain ⟨xs, f, _, _, hl, hxl, hi⟩ := DataW.trod_struct hu hx
          refine Fit.flatten _ _ (by rw [hl, hc.1]) fun i ks' hi' => ?_
          have hlen : kss.length = fs.toList.length := by
            have := congrArg List.length hc.2.1
            simpa using this.symm
          have hik : i < kss.length := by
            rcases Nat.lt_or_ge i kss.length with hlt | hge
            · exact hlt
            · rw [List.getElem?_eq_none hge] at hi'; cases hi'
          have hif : i < fs.toList.length := by omega
          have hf : fs[i]? = some fs.toList[i] := by
            rw [← Array.getElem?_toList]
            exact List.getElem?_eq_getElem hif
          have h1 := hi i _ hf
          have h2 := congrArg (fun l => l[i]?) hc.2.1
          have h3 := congrArg (fun l => l[i]?) hc.2.2
          simp only [List.getElem?_map, List.getElem?_eq_getElem hif, hi', Option.map_some, Option.some.injEq] at h2
          simp only [List.getElem?_map, List.getElem?_eq_getElem hif, List.getElem?_range hik, Option.map_some, Option.some.injEq] at h3
          have h4 : flat P m fs.toList[i].type = some ks' := mapM_at hk hif hi'
          rw [h2, h3, List.getElem?_eq_getElem (by simp at hif; omega)] at h1
          exact ih _ ks' f _ _ h4 h1
        · cases h
      · cases h
    · cases h

/-- A slice of flat elements: its elements' cells, one list an element; up to the length. -/
theorem open_flat_slice {t e : TypeId} {m : Nat} {ks : List (Option IntKind)} {a : Option Addr} {len cap : Nat} {d : DataW H} {p : List MemPlace} (ht : P.underlying t = some (.slice e)) (hk : flat P m e = some ks) (hc : P.cellsOf e = ks.length) (hpos : 0 < ks.length)
    (h : DataW.Trod enc P w base spare held t (.slice a len cap) d p) :
    ∃ xs : List (List Value), xs.length = len ∧ (∀ c ∈ xs, Fit ks c) ∧ Rd w a xs.flatten ∧ (a = none → len = 0 ∧ cap = 0) ∧ len ≤ cap ∧ cap ≤ maxLen := by
  obtain ⟨fuel, hf⟩ := h
  rcases open_slice ht hf with ⟨hcs, _⟩ | ⟨a', len', cap', m', n, D, Pl, hcs, _, hl, hm, hmm, _, hx⟩
  · simp [Value.cells] at hcs
    obtain ⟨rfl, rfl, rfl⟩ := hcs
    exact ⟨[], rfl, by simp, .inl rfl, fun _ => ⟨rfl, rfl⟩, Nat.le_refl _, by unfold maxLen; omega⟩
  · simp [Value.cells] at hcs
    obtain ⟨rfl, rfl, rfl⟩ := hcs
    have hlm : len ≤ m' := by rw [hmm]; split <;> omega
    obtain ⟨V, hV⟩ := choose_lt (α := List Value) (n := len) (p := fun i c => w.cells? base (a'.add (i * P.cellsOf e)) (P.cellsOf e) = some c ∧ Fit ks c) (fun i hi => by
      obtain ⟨c, h1, h2⟩ := hx i (by omega)
      exact ⟨c, h1, flat_fits m e ks _ _ _ hk h2⟩)
    have hfit : ∀ i, i < len → (V i).length = ks.length := fun i hi => (hV i hi).2.length
    refine ⟨(List.range len).map V, by simp, ?_, ?_, (fun h => by cases h), hl, hm⟩
    · intro c hc'
      obtain ⟨i, hi, rfl⟩ := List.mem_map.1 hc'
      exact (hV i (by simpa using hi)).2
    · by_cases h0 : len = 0
      · subst h0; exact .inl rfl
      obtain ⟨b, off, spot⟩ := a'
      have hcell : ∀ i, i < len → ∀ j, j < ks.length → w.cell? ((⟨b, off, spot⟩ : Addr).add (i * ks.length + j)) = (V i)[j]? := by
        intro i hi j hj
        obtain ⟨_, hlen, hat⟩ := World.cells?_some (hV i hi).1
        have := hat j (by rw [hc]; exact hj)
        rw [← this, hc, Go.Deep.add_add]
      have hs0 : spot = none := by
        have h1 := hcell 0 (by omega) 0 hpos
        have h2 : ((V 0)[0]?) = some ((V 0)[0]'(by rw [hfit 0 (by omega)]; exact hpos)) := List.getElem?_eq_getElem _
        rw [h2] at h1
        simpa [Addr.add] using World.cell?_spot h1
      subst hs0
      have hcell' : ∀ i, i < len → ∀ j, j < ks.length → w.cell? ⟨b, off + (i * ks.length + j), none⟩ = (V i)[j]? := by
        intro i hi j hj
        rw [← hcell i hi j hj]
        congr 1
        simp only [Addr.add]
        split <;> simp_all
      refine .inr ⟨b, off, rfl, ?_, ?_⟩
      · have h1 := hcell' 0 (by omega) 0 hpos
        have h2 : ((V 0)[0]?) = some ((V 0)[0]'(by rw [hfit 0 (by omega)]; exact hpos)) := List.getElem?_eq_getElem _
        rw [h2] at h1
        exact World.block_lt_of_cell? w _ h1
      · intro q v hq
        have hlen : ((List.range len).map V).flatten.length = len * ks.length := flat_len len V ks.length hfit
        have hql : q < len * ks.length := by
          rcases Nat.lt_or_ge q (len * ks.length) with h1 | h1
          · exact h1
          · rw [List.getElem?_eq_none (by omega)] at hq; cases hq
        have hi : q / ks.length < len := Nat.div_lt_of_lt_mul (by rw [Nat.mul_comm]; exact hql)
        have hj : q % ks.length < ks.length := Nat.mod_lt _ hpos
        have h1 := hcell' _ hi _ hj
        rw [show q / ks.length * ks.length + q % ks.length = q by rw [Nat.mul_comm]; exact Nat.div_add_mod q _] at h1
        rw [h1, ← hq]
        exact (flat_at len V ks.length hpos hfit q hql).symm
end


theorem fits_ints (k : IntKind) : ∀ (xs : List (List Value)), (∀ c ∈ xs, Fit [some k] c) → ∃ zs : List Int, zs.length = xs.length ∧ xs.flatten = zs.map (Value.int k) ∧ ∀ z ∈ zs, (Lit.int k z).wf = true
  | [], _ => ⟨[], rfl, rfl, by simp⟩
  | c :: xs, h => by
    obtain ⟨zs, hl, he, hw⟩ := fits_ints k xs fun c hc => h c (by simp [hc])
    have hc := h c (by simp)
    match c, hc with
    | [v], ⟨⟨n, hn, hwn⟩, _⟩ =>
      refine ⟨n :: zs, by simp [hl], by simp [he, hn], ?_⟩
      intro z hz
      rcases List.mem_cons.1 hz with rfl | hz
      · exact hwn
      · exact hw z hz
theorem fits_bools : ∀ (xs : List (List Value)), (∀ c ∈ xs, Fit [none] c) → ∃ zs : List Bool, zs.length = xs.length ∧ xs.flatten = zs.map Value.bool
  | [], _ => ⟨[], rfl, rfl⟩
  | c :: xs, h => by
    obtain ⟨zs, hl, he⟩ := fits_bools xs fun c hc => h c (by simp [hc])
    have hc := h c (by simp)
    match c, hc with
    | [v], ⟨⟨n, hn⟩, _⟩ => exact ⟨n :: zs, by simp [hl], by simp [he, hn]⟩

theorem wf_u8 {n : Int} (h : (Lit.int .u8 n).wf = true) : 0 ≤ n ∧ n < 256 := by
  simp [Lit.wf, IntKind.min, IntKind.max, IntKind.signed, IntKind.bits] at h
  omega
theorem fit_u8 : ∀ (n : Nat) (c : List Value), Fit (List.replicate n (some .u8)) c → ∃ l : List Nat, l.length = n ∧ c = bys l ∧ ∀ x ∈ l, x < 256
  | 0, c, h => by
    cases c with
    | nil => exact ⟨[], rfl, rfl, by simp⟩
    | cons v c => exact h.elim
  | n + 1, c, h => by
    rw [List.replicate_succ] at h
    cases c with
    | nil => exact h.elim
    | cons v c =>
      obtain ⟨⟨z, rfl, hz⟩, h2⟩ := h
      obtain ⟨l, hl, rfl, hb⟩ := fit_u8 n c h2
      have := wf_u8 hz
      refine ⟨z.toNat :: l, by simp [hl], ?_, ?_⟩
      · simp [bys, Int.toNat_of_nonneg this.1]
      · intro x hx
        rcases List.mem_cons.1 hx with rfl | hx
        · omega
        · exact hb x hx
theorem fits_u8 (n : Nat) : ∀ (xs : List (List Value)), (∀ c ∈ xs, Fit (List.replicate n (some .u8)) c) → ∃ l : List Nat, l.length = xs.length * n ∧ xs.flatten = bys l ∧ ∀ x ∈ l, x < 256
  | [], _ => ⟨[], by simp, rfl, by simp⟩
  | c :: xs, h => by
    obtain ⟨l, hl, he, hb⟩ := fits_u8 n xs fun c hc => h c (by simp [hc])
    obtain ⟨l0, hl0, he0, hb0⟩ := fit_u8 n c (h c (by simp))
    refine ⟨l0 ++ l, by rw [List.length_append, hl, hl0, List.length_cons, Nat.succ_mul, Nat.add_comm], ?_, ?_⟩
    · rw [List.flatten_cons, he, he0]
      simp [bys]
    · intro x hx
      rcases List.mem_append.1 hx with h1 | h1
      · exact hb0 x h1
      · exact hb x h1

section
variable {H : Type} {enc : TypeId × Value → H} {P : Program} {w : World} {base : Nat} {spare : Nat → Bool} {held : Bool}
theorem open_ints_flat {t e : TypeId} {k : IntKind} {a : Option Addr} {len cap : Nat} {d : DataW H} {p : List MemPlace} (ht : P.underlying t = some (.slice e)) (he : P.underlying e = some (.int k)) (hc : P.cellsOf e = 1)
    (h : DataW.Trod enc P w base spare held t (.slice a len cap) d p) :
    ∃ zs : List Int, zs.length = len ∧ Rd w a (zs.map (Value.int k)) ∧ (∀ z ∈ zs, (Lit.int k z).wf = true) ∧ (a = none → len = 0 ∧ cap = 0) ∧ len ≤ cap ∧ cap ≤ maxLen := by
  obtain ⟨xs, hl, hf, hr, h1, h2, h3⟩ := open_flat_slice (m := 1) (ks := [some k]) ht (by simp [flat, he]) (by simpa using hc) (by simp) h
  obtain ⟨zs, hz1, hz2, hz3⟩ := fits_ints k xs hf
  rw [hz2] at hr
  exact ⟨zs, hz1.trans hl, hr, hz3, h1, h2, h3⟩
theorem open_bytes {t e : TypeId} {a : Option Addr} {len cap : Nat} {d : DataW H} {p : List MemPlace} (ht : P.underlying t = some (.slice e)) (he : P.underlying e = some (.int .u8)) (hc : P.cellsOf e = 1)
    (h : DataW.Trod enc P w base spare held t (.slice a len cap) d p) :
    ∃ l : List Nat, l.length = len ∧ Rd w a (bys l) ∧ (∀ x ∈ l, x < 256) ∧ (a = none → len = 0 ∧ cap = 0) ∧ len ≤ cap ∧ cap ≤ maxLen := by
  obtain ⟨zs, hl, hr, hw, h1, h2, h3⟩ := open_ints_flat ht he hc h
  have hb : ∀ z ∈ zs, 0 ≤ z ∧ z < 256 := by
    intro z hz
    have := hw z hz
    simp [Lit.wf, IntKind.min, IntKind.max, IntKind.signed, IntKind.bits] at this
    omega
  refine ⟨zs.map Int.toNat, by simpa using hl, ?_, ?_, h1, h2, h3⟩
  · have : bys (zs.map Int.toNat) = zs.map (Value.int .u8) := by
      unfold bys
      rw [List.map_map]
      apply List.map_congr_left
      intro z hz
      have := hb z hz
      simp [Int.toNat_of_nonneg this.1]
    rw [this]
    exact hr
  · intro x hx
    obtain ⟨z, hz, rfl⟩ := List.mem_map.1 hx
    have := hb z hz
    omega
end

end Go.Proofs.Ytpllcjggjjapoaa
