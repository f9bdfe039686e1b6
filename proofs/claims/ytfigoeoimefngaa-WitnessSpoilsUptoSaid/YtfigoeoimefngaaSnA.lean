/-
  Names as keys of maps; steps of a history.
-/
import Derived.Test.YtfigoeoimefngaaZa
import Derived.DeepKeys4
namespace Go.Proofs.Ytfigoeoimefngaa
open Go.RowKit Go.Maps

structure Nm where
  s : Int
  i : Int
  t : Int
deriving DecidableEq
def Nm.v (a : Nm) : Value := .agg #[.int .i64 a.s, .int .i64 a.i, .int .i64 a.t]
def Nm.cs (a : Nm) : List Value := [.int .i64 a.s, .int .i64 a.i, .int .i64 a.t]
theorem Nm.cs_len (a : Nm) : a.cs.length = 3 := rfl
def inI (z : Int) : Prop := -9223372036854775808 ≤ z ∧ z ≤ 9223372036854775807
/-- A name that memory can hold. -/
def Nm.ok (a : Nm) : Prop := inI a.s ∧ inI a.i ∧ inI a.t
def Nm.zero : Nm := ⟨0, 0, 0⟩
theorem Nm.zero_ok : Nm.zero.ok := by unfold Nm.zero Nm.ok inI; simp

theorem laidOut : laidOutB Try.prog = true := by kernel_rfl
theorem nameRow : (29 : TypeId) < Try.prog.types.size := of_decide_eq_true (by kernel_rfl)
theorem nameWide : (match Try.prog.underlying 29 with | some (.array _ _) | some (.struct _) => true | _ => false) = true := by kernel_rfl
set_option maxRecDepth 100000 in
theorem nameLaw : Keyed Try.prog 29 := Keyed.of_law (deep_law_laid laidOut (m := 2) (by omega) nameRow (by kernel_rfl) nameWide)
theorem nameDeep : Try.prog.keyType 29 = true := by kernel_rfl
theorem nameCells : Try.prog.cellsOf 29 = 3 := by kernel_rfl
theorem intCells : Try.prog.cellsOf 3 = 1 := by kernel_rfl
set_option maxRecDepth 100000 in
theorem typesMore : ∃ m, Try.prog.types.size = m + 1 := ⟨_, (Nat.succ_pred_eq_of_pos (Nat.lt_of_le_of_lt (Nat.zero_le _) nameRow)).symm⟩
/-- What a name's key reads as. -/
def Nm.lit (a : Nm) : Lit := .string (keyBytes [(.int .i64 a.s), (.int .i64 a.i), (.int .i64 a.t)])
theorem wfI {z : Int} (h : inI z) : (Lit.int .i64 z).wf = true := by
  unfold inI at h
  simp [Lit.wf, IntKind.min, IntKind.max, IntKind.signed, IntKind.bits]
  omega
theorem name_key (a : Nm) (h : a.ok) : keyOf Try.prog 29 a.v = some a.lit := by
  obtain ⟨m, hm⟩ := typesMore
  have h1 := wfI h.1
  have h2 := wfI h.2.1
  have h3 := wfI h.2.2
  have hu := Try.underlying29
  have hi := Try.underlying3
  have hd := nameDeep
  have hc := nameCells
  have hc' := intCells
  generalize Try.prog = P at *
  have hl : P.keyLits (P.types.size + 1) 29 [.int .i64 a.s, .int .i64 a.i, .int .i64 a.t] = some [(.int .i64 a.s), (.int .i64 a.i), (.int .i64 a.t)] := by
    simp [hu, hm, Program.keyLits, hc, hc', hi, h1, h2, h3]
  have hf : (Value.agg #[.int .i64 a.s, .int .i64 a.i, .int .i64 a.t]).formed P 29 = true := by simp [Value.formed, hu, hc]
  unfold keyOf Nm.v Nm.lit
  rw [hu, hd, hf]
  show Option.map _ (P.keyLits (P.types.size + 1) 29 [.int .i64 a.s, .int .i64 a.i, .int .i64 a.t]) = _
  rw [hl, Option.map_some]
theorem lit_inj {a b : Nm} (ha : a.ok) (hb : b.ok) (h : a.lit = b.lit) : a = b := by
  have h1 := name_key a ha
  have h2 := name_key b hb
  rw [← h] at h2
  have := nameLaw.inj h1 h2
  unfold Nm.v at this
  cases a
  cases b
  simp at this
  simp [this]
theorem lit_same {a : Nm} (ha : a.ok) : a.lit.sameKey a.lit = true := WideAt.sameKey_self (nameLaw.key (name_key a ha))
theorem lit_other {a b : Nm} (ha : a.ok) (hb : b.ok) (h : a ≠ b) : a.lit.sameKey b.lit = false := sameKey_ne (fun e => h (lit_inj ha hb e))
/-- A key of a name's type is a name. -/
theorem int_lits {P : Program} {d : Nat} {I : TypeId} (hi : P.underlying I = some (.int .i64)) {c : Value} {ls : List Lit} (h : P.keyLits (d + 1) I [c] = some ls) : ∃ z, c = .int .i64 z ∧ inI z ∧ ls = [.int .i64 z] := by
  unfold Program.keyLits at h
  rw [hi] at h
  cases c <;> simp at h
  obtain ⟨⟨rfl, hw⟩, rfl⟩ := h
  refine ⟨_, rfl, ?_, rfl⟩
  simp [Lit.wf, IntKind.min, IntKind.max, IntKind.signed, IntKind.bits] at hw
  unfold inI
  omega
theorem key_name {key : Value} {kl : Lit} (h : keyOf Try.prog 29 key = some kl) : ∃ a : Nm, a.ok ∧ key = a.v ∧ kl = a.lit := by
  obtain ⟨m, hm⟩ := typesMore
  have hu := Try.underlying29
  have hi := Try.underlying3
  have hd := nameDeep
  have hc := nameCells
  have hc' := intCells
  generalize Try.prog = P at *
  unfold keyOf at h
  rw [hu, hd] at h
  cases key <;> simp [Value.formed, hu, hc] at h
  rename_i xs
  obtain ⟨hs, ls, hl, rfl⟩ := h
  obtain ⟨l⟩ := xs
  match l, hs with
  | [c0, c1, c2], _ =>
    have hl' : P.keyLits (P.types.size + 1) 29 [c0, c1, c2] = some ls := hl
    have e : P.keyLits (P.types.size + 1) 29 [c0, c1, c2] = ((P.keyLits (m + 1) 3 [c0]).bind fun x => (P.keyLits (m + 1) 3 [c1]).bind fun y => (P.keyLits (m + 1) 3 [c2]).bind fun z => some [x, y, z]).map List.flatten := by
      rw [hm]
      conv => lhs; unfold Program.keyLits
      rw [hu]
      generalize P.keyLits (m + 1) = F
      simp [hc, hc']
      cases F 3 [c0] <;> cases F 3 [c1] <;> cases F 3 [c2] <;> rfl
    rw [e] at hl'
    simp only [Option.map_eq_some_iff, Option.bind_eq_some_iff] at hl'
    obtain ⟨_, ⟨x, hx, y, hy, z, hz, he⟩, hfl⟩ := hl'
    obtain ⟨z0, rfl, o0, rfl⟩ := int_lits hi hx
    obtain ⟨z1, rfl, o1, rfl⟩ := int_lits hi hy
    obtain ⟨z2, rfl, o2, rfl⟩ := int_lits hi hz
    injection he with he
    subst he
    subst hfl
    exact ⟨⟨z0, z1, z2⟩, ⟨o0, o1, o2⟩, rfl, rfl⟩
/-- A map keyed by names: the newest entries first. -/
def asc (L : List (Nm × Value)) : Lit → Option Value := fun kl => (L.find? fun p => kl.sameKey p.1.lit).map Prod.snd
theorem asc_nil : asc [] = fun _ => none := rfl
theorem asc_upd (L : List (Nm × Value)) (n : Nm) (v : Value) : upd (asc L) n.lit v = asc ((n, v) :: L) := by
  funext kl
  unfold upd asc
  rw [List.find?_cons]
  by_cases h : kl.sameKey n.lit = true
  · rw [if_pos h, h]; rfl
  · rw [if_neg h]
    simp only [Bool.not_eq_true] at h
    rw [h]
/-- What it holds at a name. -/
def got (L : List (Nm × Value)) (n : Nm) : Option Value := (L.find? fun p => decide (p.1 = n)).map Prod.snd
theorem got_cons (p : Nm × Value) (L : List (Nm × Value)) (n : Nm) : got (p :: L) n = if p.1 = n then some p.2 else got L n := by
  unfold got
  rw [List.find?_cons]
  by_cases h : p.1 = n <;> simp [h]
theorem asc_at {L : List (Nm × Value)} (hL : ∀ p ∈ L, p.1.ok) {n : Nm} (hn : n.ok) : asc L n.lit = got L n := by
  induction L with
  | nil => rfl
  | cons p L ih =>
    rw [got_cons, ← ih (fun q hq => hL q (by simp [hq]))]
    unfold asc
    rw [List.find?_cons]
    by_cases h : p.1 = n
    · rw [if_pos h, h, lit_same hn]; rfl
    · rw [if_neg h, lit_other hn (hL p (by simp)) (Ne.symm h)]
theorem asc_mem {L : List (Nm × Value)} (kl : Lit) (h : (asc L kl).isSome = true) : kl ∈ L.map (fun p => p.1.lit) := by
  unfold asc at h
  rw [Option.isSome_map] at h
  obtain ⟨p, hp⟩ := Option.isSome_iff_exists.1 h
  have h1 := List.find?_some hp
  have h2 := List.mem_of_find?_eq_some hp
  exact List.mem_map.2 ⟨p, h2, (WideAt.sameKey_eq h1).symm⟩

/-- A step of a history. -/
structure Sn where
  k : Int
  n : Nm
  b : Int
  x0 : Int
  x1 : Int
  x2 : Int
  x3 : Int
  x4 : Int
  x5 : Int
  x6 : Int
  x7 : Int
  e : Int
deriving DecidableEq
def Sn.cs (x : Sn) : List Value := [.int .i8 x.k, .int .i64 x.n.s, .int .i64 x.n.i, .int .i64 x.n.t, .int .i64 x.b, .int .u8 x.x0, .int .u8 x.x1, .int .u8 x.x2, .int .u8 x.x3, .int .u8 x.x4, .int .u8 x.x5, .int .u8 x.x6, .int .u8 x.x7, .int .i64 x.e]
theorem Sn.cs_len (x : Sn) : x.cs.length = 14 := rfl
def Sn.val (x : Sn) : List Int := [x.x0, x.x1, x.x2, x.x3, x.x4, x.x5, x.x6, x.x7]
end Go.Proofs.Ytfigoeoimefngaa
