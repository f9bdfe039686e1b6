/-
  Rows of faults; '==' of a fault with itself.
-/
import Derived.Test.YtfigoeoimefngaaWiQ
import Derived.Deep.MidRow
import Derived.Test.YtfigoeoimefngaaZa
namespace Go.Proofs.Ytfigoeoimefngaa
open Go.RowKit Go.Maps Go.Shelf

theorem rowsFt : ∀ {fs : List Ft}, (∀ f ∈ fs, f.cs.length = 28) → ∀ {i : Nat} {f : Ft}, fs[i]? = some f → ∀ j v, f.cs[j]? = some v → (rowsOf Ft.cs fs)[i * 28 + j]? = some v
  | [], _, _, _, hf, _, _, _ => by simp at hf
  | g :: fs, h, 0, f, hf, j, v, hv => by
    simp only [List.getElem?_cons_zero, Option.some.injEq] at hf
    subst hf
    have hj := (List.getElem?_eq_some_iff.1 hv).1
    rw [rows_cons, Nat.zero_mul, Nat.zero_add, List.getElem?_append_left hj]
    exact hv
  | g :: fs, h, i + 1, f, hf, j, v, hv => by
    rw [List.getElem?_cons_succ] at hf
    have hg := h g (by simp)
    rw [rows_cons, List.getElem?_append_right (by rw [hg, Nat.succ_mul]; omega), hg, show (i + 1) * 28 + j - 28 = i * 28 + j by omega]
    exact rowsFt (fun f hf => h f (by simp [hf])) hf j v hv
theorem zNm0 (W : World) : (zeroValue 29).run Try.prog W = .ok (.agg #[.int .i64 0, .int .i64 0, .int .i64 0]) W := by kernel_rfl
theorem Rd.take {w : World} {a : Option Addr} {xs : List Value} (h : Rd w a xs) (n : Nat) : Rd w a (xs.take n) := by
  rcases h with h | ⟨b, off, e, hb, hc⟩
  · exact .inl (by rw [h, List.take_nil])
  · refine .inr ⟨b, off, e, hb, fun i v hv => hc i v ?_⟩
    rw [List.getElem?_take] at hv
    split at hv
    · exact hv
    · cases hv
theorem rd_takeS {w : World} {a : Option Addr} {L : List Sn} (h : Rd w a (rowsOf Sn.cs L)) {p : Nat} (hp : p ≤ L.length) : Rd w a (rowsOf Sn.cs (L.take p)) := by
  rw [rows_take Sn.cs_len L p hp]
  exact h.take _
def ftK : List (Option IntKind) := List.replicate 5 (some .i64) ++ (List.replicate 8 (some .u8) ++ (List.replicate 8 (some .u8) ++ (List.replicate 6 (some .i64) ++ [some .i8])))
theorem ft_flat : flatQ Try.prog 4 34 = some ftK := by kernel_rfl
theorem ft_mk : ∀ cs, mkV Try.prog 34 cs = .agg cs.toArray := fun cs => by unfold mkV; rw [Try.underlying34]
theorem ft_kinds {f : Ft} (h : f.ok) : OfKinds ftK f.cs := by
  have e : f.cs = [.int .i64 (f.at_ : Int), .int .i64 f.n.s, .int .i64 f.n.i, .int .i64 f.n.t, .int .i64 f.b] ++ (ivs f.want ++ (ivs f.got ++ ([.int .i64 f.should.s, .int .i64 f.should.i, .int .i64 f.should.t, .int .i64 f.was.s, .int .i64 f.was.i, .int .i64 f.was.t] ++ [.int .i8 f.k]))) := by simp [Ft.cs, Nm.cs]
  rw [e]
  refine OfKinds.join ⟨⟨_, rfl⟩, ⟨_, rfl⟩, ⟨_, rfl⟩, ⟨_, rfl⟩, ⟨_, rfl⟩, trivial⟩ (OfKinds.join (kinds8 8 _ h.want) (OfKinds.join (kinds8 8 _ h.got) (OfKinds.join ⟨⟨_, rfl⟩, ⟨_, rfl⟩, ⟨_, rfl⟩, ⟨_, rfl⟩, ⟨_, rfl⟩, ⟨_, rfl⟩, trivial⟩ ⟨⟨_, rfl⟩, trivial⟩)))
theorem ft_self {f : Ft} (h : f.ok) (W : World) : (Op.equalIn 10000 34 (.agg f.cs.toArray) (.agg f.cs.toArray)).run Try.prog W = .ok true W := by
  have := eq_flat_agg (P := Try.prog) W 4 34 _ ft_flat (by omega) ft_mk _ _ (ft_kinds h) (ft_kinds h)
  rw [this, (cellsEq_iff (ft_kinds h) (ft_kinds h)).2 rfl]
theorem ld_fault {w : World} {a : Option Addr} {fs : List Ft} (h : Rd w a (rowsOf Ft.cs fs)) (hf : ∀ f ∈ fs, f.ok) {i : Nat} {f : Ft} (hi : fs[i]? = some f) :
    ∃ g off, a = some ⟨g, off, none⟩ ∧ g < w.heap.size ∧ w.rangeAt g (off + i * 28) f.cs := by
  have hall : ∀ f ∈ fs, f.cs.length = 28 := fun f hm => Ft.cs_len (hf f hm)
  obtain ⟨g, off, rfl, hgw, hcF⟩ := h.at (show 0 < (rowsOf Ft.cs fs).length by
    have h1 := (List.getElem?_eq_some_iff.1 (rowsFt hall hi 0 (.int .i64 (f.at_ : Int)) rfl)).1; omega)
  refine ⟨g, off, rfl, hgw, fun j v hv => ?_⟩
  have h1 := rowsFt hall hi j v hv
  obtain ⟨h2, h3⟩ := List.getElem?_eq_some_iff.1 h1
  have h4 := hcF _ h2
  rw [h3] at h4
  rw [Nat.add_assoc]; exact h4
theorem wrongF_ok {L : List Sn} (hm : mayB L = true) (hok : ∀ x ∈ L, x.n.ok ∧ x.wk.ok) : ∀ f ∈ wrongF L, f.ok := fun f hf => by
  unfold wrongF at hf
  obtain ⟨f0, h1, h3⟩ := List.mem_map.1 hf
  have h2 := (readsF_ok hm hok (List.mem_filter.1 h1).1).ok
  rw [← h3]
  exact ⟨h2.want, h2.got⟩
end Go.Proofs.Ytfigoeoimefngaa
