/-
  Sectors after a flush, after a crash.
-/
import Derived.Test.YtmcofmidpedkiaaHmR
namespace Go.Proofs.Ytmcofmidpedkiaa
open Go.RowKit Go.Maps

theorem rd_flush {dur : List Nat} {C : Nat → List (List Nat)} (hd : dur.length = 2176) (x : Nat) (hx : x < 34) (hl : ∀ l, (C x).getLast? = some l → l.length = 64) : rdS (flushed dur C) noC x = rdS dur C x := by
  have e1 : rdS (flushed dur C) noC x = ((flushed dur C).drop (x * 64)).take 64 := rfl
  rw [e1]
  apply List.ext_getElem?
  intro i
  by_cases hi : i < 64
  · rw [List.getElem?_take_of_lt hi, List.getElem?_drop]
    unfold flushed
    rw [fl_get _ _ _ _ (by omega), show (x * 64 + i) / 64 = x by omega, show (x * 64 + i) % 64 = i by omega]
    unfold rdS
    cases hc : (C x).getLast? with
    | none =>
      have : C x = [] := List.getLast?_eq_none_iff.1 hc
      rw [this]
      simp only [List.isEmpty_nil, Bool.not_true, Bool.false_eq_true, if_false]
      rw [List.getElem?_take_of_lt hi, List.getElem?_drop, List.getElem?_eq_getElem (by omega), List.getD_eq_getElem?_getD, List.getElem?_eq_getElem (by omega)]
      rfl
    | some l =>
      have h1 : (C x).isEmpty = false := by
        cases hcx : C x with
        | nil => rw [hcx] at hc; cases hc
        | cons a b => rfl
      have h2 := hl l hc
      rw [h1]
      simp only [Bool.not_false, if_true, Option.getD_some]
      rw [List.getD_eq_getElem?_getD, List.getElem?_eq_getElem (by omega)]
      rfl
  · rw [List.getElem?_eq_none (by rw [List.length_take]; omega)]
    unfold rdS
    cases hc : (C x).getLast? with
    | none => rw [List.getElem?_eq_none (by rw [List.length_take]; omega)]
    | some l => rw [List.getElem?_eq_none (by rw [hl l hc]; omega)]
theorem rd_crash {dur : List Nat} (hd : dur.length = 2176) (s : Nat) (hs : s < 34) (l : List Nat) (hl : l.length = 64) : rdS (spl dur (s * 64) l) noC s = l := by
  have e1 : rdS (spl dur (s * 64) l) noC s = ((spl dur (s * 64) l).drop (s * 64)).take 64 := rfl
  rw [e1]
  have h1 : (dur.take (s * 64)).length = s * 64 := by rw [List.length_take]; omega
  unfold spl
  rw [List.append_assoc, List.drop_left' h1, List.take_left' hl]
theorem rd_crash' {dur : List Nat} (hd : dur.length = 2176) (s x : Nat) (hs : s < 34) (hne : x ≠ s) (l : List Nat) (hl : l.length = 64) : rdS (spl dur (s * 64) l) noC x = rdS dur noC x := by
  have e1 : rdS (spl dur (s * 64) l) noC x = ((spl dur (s * 64) l).drop (x * 64)).take 64 := rfl
  have e2 : rdS dur noC x = (dur.drop (x * 64)).take 64 := rfl
  rw [e1, e2]
  apply List.ext_getElem?
  intro i
  by_cases hi : i < 64
  · rw [List.getElem?_take_of_lt hi, List.getElem?_drop, List.getElem?_take_of_lt hi, List.getElem?_drop, spl_get _ _ _ (by omega), hl]
    by_cases h1 : x * 64 + i < s * 64
    · rw [if_pos h1]
    · rw [if_neg h1, if_neg (by omega)]
  · rw [List.getElem?_eq_none (by rw [List.length_take]; omega), List.getElem?_eq_none (by rw [List.length_take]; omega)]
/-- A superblock's block that is not the disk's is written over. -/
theorem Dk.far {w w' : World} {B : Nat} {O : Nat → Prop} {g : Nat} {dur : List Nat} {C : Nat → List (List Nat)} {down : Bool} (h : Dk w B O g dur C down) {r : Nat} {cs : Array Value} (hr : At w r 39 cs) (hO : ¬ O r) (ho : ∀ i, i < w.heap.size → i ≠ r → w'.heap[i]? = w.heap[i]?) (hs : w.heap.size ≤ w'.heap.size) : Dk w' B O g dur C down := by
  obtain ⟨m, V, h1, h2, h3, h4, h5, h6, h7, h8⟩ := h
  refine ⟨m, V, (ho g h1.lt (fun e => hO (e ▸ h3))).trans h1, h2, h3, h4, h5.same (ho m h5.lt (fun e => hO (e ▸ h4))), fun x hx hc => ⟨(h6 x hx hc).1.same ?_ ?_, (h6 x hx hc).2⟩, h7, fun i hi => ⟨(h8 i hi).1, Nat.lt_of_lt_of_le (h8 i hi).2 hs⟩⟩
  · intro b hb
    obtain ⟨b', hb', hob⟩ := (h6 x hx hc).2
    rw [hb] at hb'
    cases hb'
    exact ho b (h8 b hob).2 (fun e => hO (e ▸ hob))
  · rintro b hb ⟨cs, hcs⟩
    refine ho b hb ?_
    rintro rfl
    unfold At at hr
    rw [hcs] at hr
    injection hr with hr
    injection hr with _ hr
    exact absurd hr (by decide)
theorem Dk.farSet {w : World} {B : Nat} {O : Nat → Prop} {g : Nat} {dur : List Nat} {C : Nat → List (List Nat)} {down : Bool} (h : Dk w B O g dur C down) {r : Nat} {cs : Array Value} (hr : At w r 39 cs) (hO : ¬ O r) (i : Nat) (v : Value) : Dk (w.setCell ⟨r, i, none⟩ v) B O g dur C down :=
  h.far hr hO (fun j _ hj => Below.heap_setCell w ⟨r, i, none⟩ v j hj) (by simp)
theorem heap_setCells (r j : Nat) (hj : j ≠ r) : ∀ (vs : List Value) (w : World) (o : Nat), (w.setCells r o vs).heap[j]? = w.heap[j]?
  | [], _, _ => rfl
  | v :: vs, w, o => by
    unfold World.setCells
    rw [heap_setCells r j hj vs]
    exact Below.heap_setCell w ⟨r, o, none⟩ v j hj
theorem Dk.farSets {w : World} {B : Nat} {O : Nat → Prop} {g : Nat} {dur : List Nat} {C : Nat → List (List Nat)} {down : Bool} (h : Dk w B O g dur C down) {r : Nat} {cs : Array Value} (hr : At w r 39 cs) (hO : ¬ O r) (o : Nat) (vs : List Value) : Dk (w.setCells r o vs) B O g dur C down :=
  h.far hr hO (fun j _ hj => heap_setCells r j hj vs w o) (Nat.le_of_eq (size_setCells r vs o).symm)
end Go.Proofs.Ytmcofmidpedkiaa
