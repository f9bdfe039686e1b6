/-
  Plain: how many steps a mending changed; '==' on steps, on blocks.
-/
import Derived.Test.YtfigoeoimefngaaWnA
import Derived.Test.YtfigoeoimefngaaWjF
import Derived.Test.YtfigoeoimefngaaWiU
import Derived.Test.YtfigoeoimefngaaOrO
namespace Go.Proofs.Ytfigoeoimefngaa
open Go.RowKit Go.Maps Go.Shelf

theorem nodup_len : ∀ {l1 l2 : List Nat}, l1.Nodup → (∀ x ∈ l1, x ∈ l2) → l1.length ≤ l2.length
  | [], _, _, _ => Nat.zero_le _
  | x :: l1, l2, hn, hs => by
    rw [List.nodup_cons] at hn
    have hx := hs x (by simp)
    have ih := nodup_len (l1 := l1) (l2 := l2.erase x) hn.2 (fun y hy => (List.mem_erase_of_ne (fun e => hn.1 (by rw [e] at hy; exact hy))).2 (hs y (by simp [hy])))
    rw [List.length_erase_of_mem hx] at ih
    have : 0 < l2.length := List.length_pos_of_mem hx
    simp
    omega
def chB (L M : List Sn) (j : Nat) : Bool := !decide (M[j]? = L[j]?)
def chN (L M : List Sn) (k : Nat) : Nat := ((List.range k).filter (chB L M)).length
theorem chN_more (L M : List Sn) (k : Nat) : chN L M (k + 1) = chN L M k + if chB L M k = true then 1 else 0 := by
  unfold chN
  rw [List.range_succ, List.filter_append, List.length_append]
  congr 1
  rw [List.filter_cons]
  split <;> simp
theorem chN_le (L M : List Sn) (k : Nat) : chN L M k ≤ k := by
  unfold chN
  have := List.length_filter_le (chB L M) (List.range k)
  rwa [List.length_range] at this
theorem mend_count {L : List Sn} (hm : mayB L = true) (hok : ∀ x ∈ L, x.n.ok ∧ x.wk.ok) : chN L (mendL L) L.length = (wrongF L).length := by
  have hn := reads_nodup hm
  have hw : (wrongF L).length = (((readsF L).filter badF).map Ft.at_).length := by unfold wrongF; rw [List.length_map, List.length_map]
  have hB : (((readsF L).filter badF).map Ft.at_).Nodup := hn.sublist (List.Sublist.map _ List.filter_sublist)
  have hC : ((List.range L.length).filter (chB L (mendL L))).Nodup := List.nodup_range.sublist List.filter_sublist
  rw [hw]
  unfold chN
  refine Nat.le_antisymm (nodup_len hC fun j hj => ?_) (nodup_len hB fun j hj => ?_)
  · obtain ⟨h1, h2⟩ := List.mem_filter.1 hj
    have hjl := List.mem_range.1 h1
    have hx : L[j]? = some L[j] := List.getElem?_eq_getElem hjl
    generalize L[j] = x at hx
    unfold chB mendL at h2
    rw [mendK_get _ _ hn, hx] at h2
    cases hr : (readsF L).find? (fun f => f.at_ = j) with
    | none => rw [hr] at h2; simp at h2
    | some f =>
      rw [hr] at h2
      have hf := List.mem_of_find?_eq_some hr
      have hp : f.at_ = j := by simpa using List.find?_some hr
      obtain ⟨y, hy, _, hv, _⟩ := read_at hf
      rw [hp, hx] at hy
      injection hy with hy
      subst hy
      refine List.mem_map.2 ⟨f, List.mem_filter.2 ⟨hf, ?_⟩, hp⟩
      unfold badF
      by_cases hb : f.want = f.got
      · have e1 : x.put f.want = x := by rw [hb, ← hv]; exact put_self x
        simp [e1] at h2
      · simp [hb]
  · obtain ⟨f, hf, rfl⟩ := List.mem_map.1 hj
    obtain ⟨h1, h2⟩ := List.mem_filter.1 hf
    obtain ⟨x, hx, _, hv, _⟩ := read_at h1
    have hjl := (List.getElem?_eq_some_iff.1 hx).1
    refine List.mem_filter.2 ⟨List.mem_range.2 hjl, ?_⟩
    unfold chB mendL
    rw [mendK_get _ _ hn, hx, find_at hn h1]
    simp only [Option.map_some, Option.some.injEq]
    have : ¬ x.put f.want = x := fun e => by
      have h3 := put_val (readsF_ok hm hok h1).ok.want x
      rw [e, hv] at h3
      simp [badF, h3] at h2
    simp [this]
theorem sn_flat : flatQ Try.prog 4 36 = some ksSn := by kernel_rfl
theorem sn_mk : ∀ cs, mkV Try.prog 36 cs = .agg cs.toArray := fun cs => by unfold mkV; rw [Try.underlying36]
theorem sn_kinds (x : Sn) : OfKinds ksSn x.cs := ⟨⟨_, rfl⟩, ⟨_, rfl⟩, ⟨_, rfl⟩, ⟨_, rfl⟩, ⟨_, rfl⟩, ⟨_, rfl⟩, ⟨_, rfl⟩, ⟨_, rfl⟩, ⟨_, rfl⟩, ⟨_, rfl⟩, ⟨_, rfl⟩, ⟨_, rfl⟩, ⟨_, rfl⟩, ⟨_, rfl⟩, trivial⟩
set_option maxRecDepth 100000 in
theorem sn_inj {x y : Sn} (h : x.cs = y.cs) : x = y := by
  obtain ⟨k, ⟨s, i, t⟩, b, x0, x1, x2, x3, x4, x5, x6, x7, e⟩ := x
  obtain ⟨k', ⟨s', i', t'⟩, b', y0, y1, y2, y3, y4, y5, y6, y7, e'⟩ := y
  simp only [Sn.cs, List.cons.injEq, Value.int.injEq, true_and, and_true] at h
  simp only [Sn.mk.injEq, Nm.mk.injEq]
  obtain ⟨h0, h1, h2, h3, h4, h5, h6, h7, h8, h9, h10, h11, h12, h13⟩ := h
  exact ⟨h0, ⟨h1, h2, h3⟩, h4, h5, h6, h7, h8, h9, h10, h11, h12, h13⟩
set_option maxRecDepth 100000 in
theorem sn_eq (x y : Sn) (W : World) : (Op.equalIn 10000 36 (.agg x.cs.toArray) (.agg y.cs.toArray)).run Try.prog W = .ok (decide (x = y)) W := by
  have := eq_flat_agg (P := Try.prog) W 4 36 _ sn_flat (by omega) sn_mk _ _ (sn_kinds x) (sn_kinds y)
  rw [this]
  congr 1
  rw [Bool.eq_iff_iff, cellsEq_iff (sn_kinds x) (sn_kinds y), decide_eq_true_eq]
  exact ⟨sn_inj, fun e => by rw [e]⟩
theorem b256_flat : flatQ Try.prog 4 46 = some (List.replicate 256 (some .u8)) := by kernel_rfl
theorem b256_mk : ∀ cs, mkV Try.prog 46 cs = .agg cs.toArray := fun cs => by unfold mkV; rw [Try.underlying46]
set_option maxRecDepth 100000 in
theorem b256_self {Y : List Int} (h : Y.length = 256) (W : World) : (Op.equalIn 10000 46 (.agg (ivs Y).toArray) (.agg (ivs Y).toArray)).run Try.prog W = .ok true W := by
  have hk := kinds8 256 Y h
  have := eq_flat_agg (P := Try.prog) W 4 46 _ b256_flat (by omega) b256_mk _ _ hk hk
  rw [this, (cellsEq_iff hk hk).2 rfl]
theorem ld_seen {w : World} {a : Option Addr} {L : List Sn} (h : Rd w a (rowsOf Sn.cs L)) {i : Nat} {x : Sn} (hi : L[i]? = some x) :
    ∃ g off, a = some ⟨g, off, none⟩ ∧ g < w.heap.size ∧ w.rangeAt g (off + i * 14) x.cs := by
  obtain ⟨hil, hx⟩ := List.getElem?_eq_some_iff.1 hi
  obtain ⟨g, off, rfl, hg, hc⟩ := h.at (show 0 < (rowsOf Sn.cs L).length by rw [rows_length Sn.cs_len]; omega)
  refine ⟨g, off, rfl, hg, fun j v hv => ?_⟩
  have hj : j < 14 := by have := (List.getElem?_eq_some_iff.1 hv).1; rwa [Sn.cs_len] at this
  have h1 := rows_get (f := Sn.cs) Sn.cs_len L i j hil hj
  rw [hx, hv] at h1
  obtain ⟨h2, h3⟩ := List.getElem?_eq_some_iff.1 h1
  have := hc _ h2
  rw [h3] at this
  rw [Nat.add_assoc]; exact this
theorem range_val {w : World} {g o : Nat} {x : Sn} (h : w.rangeAt g o x.cs) : w.rangeAt g (o + 5) (ivs x.val) := fun j v hv => by
  have hj : j < 8 := by have := (List.getElem?_eq_some_iff.1 hv).1; simpa [ivs_len, Sn.val] using this
  have : x.cs[5 + j]? = some v := by
    have e : x.cs = [.int .i8 x.k, .int .i64 x.n.s, .int .i64 x.n.i, .int .i64 x.n.t, .int .i64 x.b] ++ (ivs x.val ++ [.int .i64 x.e]) := rfl
    rw [e, List.getElem?_append_right (by simp), show 5 + j - ([.int .i8 x.k, .int .i64 x.n.s, .int .i64 x.n.i, .int .i64 x.n.t, .int .i64 x.b] : List Value).length = j by simp, List.getElem?_append_left (by simp [ivs_len, Sn.val]; omega)]
    exact hv
  have := h _ _ this
  rw [Nat.add_assoc]; exact this
/-- A read's step, with what another tells put into it. -/
theorem put_alk {x y : Sn} (h : alk x y) : y.put x.val = x := by
  obtain ⟨k, n, b, x0, x1, x2, x3, x4, x5, x6, x7, e⟩ := x
  obtain ⟨k', n', b', y0, y1, y2, y3, y4, y5, y6, y7, e'⟩ := y
  obtain ⟨h1, h2, h3, h4, _⟩ := h
  simp only at h1 h2 h3 h4
  simp [Sn.put, Sn.val, h1, h2, h3, h4]
theorem cs_put (y : Sn) (v : List Int) (hv : v.length = 8) : spl y.cs 5 (ivs v) = (y.put v).cs := by
  obtain ⟨a0, a1, a2, a3, a4, a5, a6, a7, rfl⟩ := eight_of hv
  rfl
end Go.Proofs.Ytfigoeoimefngaa
