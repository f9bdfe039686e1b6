/-
  Names as keys of maps; what a map holds at names.
-/
import Derived.Test.YtpllcjggjjapoaaMe
import Derived.Test.YtpllcjggjjapoaaNmH
import Derived.Test.YtpllcjggjjapoaaRws
import Derived.DeepKeys4
namespace Go.Proofs.Ytpllcjggjjapoaa
open Go.RowKit Go.Maps

def inI (z : Int) : Prop := -9223372036854775808 ≤ z ∧ z ≤ 9223372036854775807
/-- A name that memory can hold. -/
def Nm.ok (a : Nm) : Prop := inI a.s ∧ inI a.i ∧ inI a.t
def Nm.zero : Nm := ⟨0, 0, 0⟩
theorem Nm.zero_ok : Nm.zero.ok := by unfold Nm.zero Nm.ok inI; simp

theorem laidOut : laidOutB Try.prog = true := by kernel_rfl
theorem nameRow : (24 : TypeId) < Try.prog.types.size := of_decide_eq_true (by kernel_rfl)
theorem nameWide : (match Try.prog.underlying 24 with | some (.array _ _) | some (.struct _) => true | _ => false) = true := by kernel_rfl
theorem nameKL : Go.WideMaps.KeyLaw Try.prog 24 := deep_law_laid laidOut (m := 2) (by omega) nameRow (by kernel_rfl) nameWide
theorem nameLaw : Keyed Try.prog 24 := Keyed.of_law nameKL
theorem nameDeep : Try.prog.keyType 24 = true := by kernel_rfl
theorem nameCells : Try.prog.cellsOf 24 = 3 := by kernel_rfl
theorem intCells : Try.prog.cellsOf 3 = 1 := by kernel_rfl
theorem typesMore : ∃ m, Try.prog.types.size = m + 1 := ⟨_, (Nat.succ_pred_eq_of_pos (Nat.lt_of_le_of_lt (Nat.zero_le _) nameRow)).symm⟩
/-- What a name's key reads as. -/
def Nm.lit (a : Nm) : Lit := .string (keyBytes [(.int .i64 a.s), (.int .i64 a.i), (.int .i64 a.t)])
theorem wfI {z : Int} (h : inI z) : (Lit.int .i64 z).wf = true := by
  unfold inI at h
  simp [Lit.wf, IntKind.min, IntKind.max, IntKind.signed, IntKind.bits]
  omega
theorem name_key (a : Nm) (h : a.ok) : keyOf Try.prog 24 a.v = some a.lit := by
  obtain ⟨m, hm⟩ := typesMore
  have h1 := wfI h.1
  have h2 := wfI h.2.1
  have h3 := wfI h.2.2
  have hu := Try.underlying24
  have hi := Try.underlying3
  have hd := nameDeep
  have hc := nameCells
  have hc' := intCells
  generalize Try.prog = P at *
  have hl : P.keyLits (P.types.size + 1) 24 [.int .i64 a.s, .int .i64 a.i, .int .i64 a.t] = some [(.int .i64 a.s), (.int .i64 a.i), (.int .i64 a.t)] := by
    simp [hu, hm, Program.keyLits, hc, hc', hi, h1, h2, h3]
  have hf : (Value.agg #[.int .i64 a.s, .int .i64 a.i, .int .i64 a.t]).formed P 24 = true := by simp [Value.formed, hu, hc]
  unfold keyOf Nm.v Nm.lit
  rw [hu, hd, hf]
  show Option.map _ (P.keyLits (P.types.size + 1) 24 [.int .i64 a.s, .int .i64 a.i, .int .i64 a.t]) = _
  rw [hl, Option.map_some]
theorem lit_inj {a b : Nm} (ha : a.ok) (hb : b.ok) (h : a.lit = b.lit) : a = b := by
  have h1 := name_key a ha
  have h2 := name_key b hb
  rw [← h] at h2
  have := nameLaw.inj h1 h2
  unfold Nm.v at this
  cases a
  cases b
  simp at this
  simp [this]
theorem lit_same {a : Nm} (ha : a.ok) : a.lit.sameKey a.lit = true := WideAt.sameKey_self (nameLaw.key (name_key a ha))
theorem lit_other {a b : Nm} (ha : a.ok) (hb : b.ok) (h : a ≠ b) : a.lit.sameKey b.lit = false := sameKey_ne (fun e => h (lit_inj ha hb e))
/-- A key of a name's type is a name. -/
theorem int_lits {P : Program} {d : Nat} {I : TypeId} (hi : P.underlying I = some (.int .i64)) {c : Value} {ls : List Lit} (h : P.keyLits (d + 1) I [c] = some ls) : ∃ z, c = .int .i64 z ∧ inI z ∧ ls = [.int .i64 z] := by
  unfold Program.keyLits at h
  rw [hi] at h
  cases c <;> simp at h
  obtain ⟨⟨rfl, hw⟩, rfl⟩ := h
  refine ⟨_, rfl, ?_, rfl⟩
  simp [Lit.wf, IntKind.min, IntKind.max, IntKind.signed, IntKind.bits] at hw
  unfold inI
  omega
theorem key_name {key : Value} {kl : Lit} (h : keyOf Try.prog 24 key = some kl) : ∃ a : Nm, a.ok ∧ key = a.v ∧ kl = a.lit := by
  obtain ⟨m, hm⟩ := typesMore
  have hu := Try.underlying24
  have hi := Try.underlying3
  have hd := nameDeep
  have hc := nameCells
  have hc' := intCells
  generalize Try.prog = P at *
  unfold keyOf at h
  rw [hu, hd] at h
  cases key <;> simp [Value.formed, hu, hc] at h
  rename_i xs
  obtain ⟨hs, ls, hl, rfl⟩ := h
  obtain ⟨l⟩ := xs
  match l, hs with
  | [c0, c1, c2], _ =>
    have hl' : P.keyLits (P.types.size + 1) 24 [c0, c1, c2] = some ls := hl
    have e : P.keyLits (P.types.size + 1) 24 [c0, c1, c2] = ((P.keyLits (m + 1) 3 [c0]).bind fun x => (P.keyLits (m + 1) 3 [c1]).bind fun y => (P.keyLits (m + 1) 3 [c2]).bind fun z => some [x, y, z]).map List.flatten := by
      rw [hm]
      conv => lhs; unfold Program.keyLits
      rw [hu]
      generalize P.keyLits (m + 1) = F
      simp [hc, hc']
      cases F 3 [c0] <;> cases F 3 [c1] <;> cases F 3 [c2] <;> rfl
    rw [e] at hl'
    simp only [Option.map_eq_some_iff, Option.bind_eq_some_iff] at hl'
    obtain ⟨_, ⟨x, hx, y, hy, z, hz, he⟩, hfl⟩ := hl'
    obtain ⟨z0, rfl, o0, rfl⟩ := int_lits hi hx
    obtain ⟨z1, rfl, o1, rfl⟩ := int_lits hi hy
    obtain ⟨z2, rfl, o2, rfl⟩ := int_lits hi hz
    injection he with he
    subst he
    subst hfl
    exact ⟨⟨z0, z1, z2⟩, ⟨o0, o1, o2⟩, rfl, rfl⟩

/-- A map of names: those of N, each with f's value. -/
def fT (N : List Nm) (f : Nm → Value) : Lit → Option Value := fun kl => (N.find? fun n => kl.sameKey n.lit).map f
theorem fT_at {N : List Nm} (hN : ∀ n ∈ N, n.ok) (f : Nm → Value) {n : Nm} (hn : n.ok) : fT N f n.lit = if n ∈ N then some (f n) else none := by
  induction N with
  | nil => rfl
  | cons y N ih =>
    unfold fT
    rw [List.find?_cons]
    by_cases h : y = n
    · subst h
      rw [lit_same hn]
      simp
    · rw [lit_other hn (hN y (by simp)) (Ne.symm h)]
      have := ih (fun z hz => hN z (by simp [hz]))
      unfold fT at this
      simp only [this, List.mem_cons, Ne.symm h, false_or]
theorem fT_upd {N : List Nm} (f : Nm → Value) {n : Nm} (v : Value) (f' : Nm → Value) (h1 : f' n = v) (h2 : ∀ y, y ≠ n → f' y = f y) : upd (fT N f) n.lit v = fT (n :: N) f' := by
  funext kl
  unfold upd fT
  rw [List.find?_cons]
  by_cases h : kl.sameKey n.lit = true
  · rw [if_pos h, h]; simp [h1]
  · rw [if_neg h]
    simp only [Bool.not_eq_true] at h
    rw [h]
    cases hf : N.find? fun n => kl.sameKey n.lit with
    | none => rfl
    | some y =>
      have hy := List.find?_some hf
      have hne : y ≠ n := fun e => by subst e; rw [h] at hy; cases hy
      simp [h2 y hne]
theorem fT_mem {N : List Nm} {f : Nm → Value} (kl : Lit) (h : (fT N f kl).isSome = true) : kl ∈ N.map Nm.lit := by
  unfold fT at h
  rw [Option.isSome_map] at h
  obtain ⟨p, hp⟩ := Option.isSome_iff_exists.1 h
  have hs := List.find?_some hp
  exact List.mem_map.2 ⟨p, List.mem_of_find?_eq_some hp, (WideAt.sameKey_eq hs).symm⟩
end Go.Proofs.Ytpllcjggjjapoaa
