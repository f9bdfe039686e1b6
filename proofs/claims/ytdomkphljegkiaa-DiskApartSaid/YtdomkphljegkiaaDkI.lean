/-
  disk.lists, Copy.
-/
import Derived.Test.YtdomkphljegkiaaDkH
import Derived.Shelf.SlMaps.Clone
namespace Go.Proofs.Ytdomkphljegkiaa
open Go.RowKit Go.Maps

theorem fold_set : ∀ (vs : List Value) (k : Nat) (A : List Value), k + vs.length ≤ A.length → (vs.zipIdx k).foldl (fun (cs : Array Value) (p : Value × Nat) => cs.setIfInBounds (0 + p.2) p.1) A.toArray = (spl A k vs).toArray
  | [], k, A, _ => by simp [spl]
  | v :: vs, k, A, h => by
    simp only [List.length_cons] at h
    rw [List.zipIdx_cons, List.foldl_cons]
    simp only [Nat.zero_add, List.setIfInBounds_toArray]
    have ih := fold_set vs (k + 1) (A.set k v) (by simp; omega)
    simp only [Nat.zero_add] at ih
    rw [ih]
    congr 1
    apply List.ext_getElem?
    intro i
    rw [spl_get _ _ _ (by simp; omega), spl_get _ _ _ (by simp; omega)]
    simp only [List.length_cons, List.getElem?_set]
    by_cases h3 : i < k
    · rw [if_pos (by omega), if_pos h3, if_neg (by omega)]
    · rw [if_neg h3]
      by_cases h4 : i = k
      · subst h4
        rw [if_pos (by omega), if_pos rfl, if_pos (by omega), if_pos (by omega)]
        simp
      · rw [if_neg (by omega)]
        by_cases h5 : i < k + 1 + vs.length
        · rw [if_pos h5, if_pos (by omega), show i - k = (i - (k + 1)) + 1 by omega]
          simp
        · rw [if_neg h5, if_neg (by omega), if_neg (by omega)]
theorem places_dk (W : World) : ((Try.prog.fieldsOf 47).mapM fun (f : Field) => (do pure (f.offset, ← sizeOf f.type) : Sem (Nat × Nat))).run Try.prog W = .ok #[(0, 2176), (2176, 1), (2177, 1)] W := by kernel_rfl
theorem run_build_dk (dur : List Nat) (hl : dur.length = 2176) (m : Nat) (d : Bool) (W : World) : (Instr.build 47 #[(0, .agg (bys dur).toArray), (1, .map (some m)), (2, .bool d)]).run Try.prog W = .ok (.agg (dkc dur m d).toArray) W := by
  have hu : Try.prog.underlying 47 = some (.struct (Try.prog.fieldsOf 47)) := by kernel_rfl
  have hp := places_dk W
  unfold Instr.build
  simp only [Sem.run_bind, zdk_run, Result.andThen_ok, run_underlying hu, hp]
  have hbl := bys_length dur
  rw [hl] at hbl
  have hf : Instr.fill (fun i => (#[(0, 2176), (2176, 1), (2177, 1)] : Array (Nat × Nat))[i]?) zdk.toArray [(0, .agg (bys dur).toArray), (1, .map (some m)), (2, .bool d)] = some (dkc dur m d).toArray := by
    have e1 := fold_set (bys dur) 0 zdk (by rw [zdk_len, hbl]; omega)
    have e2 : spl zdk 0 (bys dur) = bys dur ++ [.map none, .bool false] := by
      unfold spl zdk
      have := bys_length zer
      rw [zer_length] at this
      rw [List.take_zero, List.nil_append, Nat.zero_add, List.drop_left' (by rw [this, hbl])]
    rw [e2] at e1
    unfold dkc
    generalize bys dur = D at *
    have hz := zdk_len
    generalize zdk = Z at *
    simp only [Nat.zero_add] at e1
    simp [Instr.fill, Value.cells, hbl, hz]
    rw [e1]
    simp [hbl, List.set_append_right]
  show (match Instr.fill (fun i => (#[(0, 2176), (2176, 1), (2177, 1)] : Array (Nat × Nat))[i]?) zdk.toArray [(0, .agg (bys dur).toArray), (1, .map (some m)), (2, .bool d)] with
    | some cells => pure (Value.agg cells)
    | _ => stuck "build: no such field, or a part of the wrong size").run Try.prog W = _
  rw [hf]
  rfl

/-- maps.Clone. -/
theorem mclone_any (b : Nat) (es : Array MapEntry) (clock : Nat) (w : World) (hb : w.heap[b]? = some (.map es clock)) :
    Calls Try.prog 22 #[.map (some b)] w fun e w' => e = .returned (.map (some w.heap.size)) ∧ w.alloc (.map es clock) = w' := by
  have hq := fun w => run_eql_map_nil (P := Try.prog) w 43 _ _ (some b) Try.underlying43
  go_enter Try.func22, Try.ntmps22
  go_wp2_with fail
  rw [run_callFunc_extern Try.func25 (by kernel_rfl) (by kernel_rfl) (by kernel_rfl) (e := Extern.MapsClone.clone) (by kernel_rfl), run_maps_clone_sl w 43 hb]
  simp only [Result.andThen]
  rw [Oper.upon_value]
  go_wp2_with fail
  rw [run_typeAssert_map_sl _ 43 20 _ _ _ Try.underlying43]
  simp only [Result.andThen]
  rw [Oper.upon_value]
  go_wp2_with fail
  go_ret
  exact ⟨rfl, rfl⟩

/-- slices.Clone of a sector's writes. -/
theorem clones_any (sl : List Value) (n : Nat) (hn : sl.length = n) (h1 : ∀ u ∈ sl, u.oneCell' = true) (a : Addr) (cap : Nat) (w : World) (hr : Rd w (some a) sl) (hl : n ≤ 1000000) :
    Calls Try.prog 23 #[.slice (some a) n cap] w (RetNew w 27 1 n sl) := by
  obtain ⟨i0, hi0, hz0, hz1, hz2⟩ := info_parts info_by
  have HR := Lib.hid hr
  have HN := Lib.hid hn
  have H1 := Lib.hid h1
  clear hr hn h1
  have hq := fun (W : World) (a : Option Addr) (l c : Nat) => Lib.run_eql_slice_nil (P := Try.prog) W 48 27 a l c 0 0 Try.underlying48
  go_enter Try.func23, Try.ntmps23
  go_wp2_with (at_builtin; refine wpList_append_rd _ rfl (.tmp 5) (.tmp 6) 48 rfl w.heap.size 27 i0 _ 1 24 Try.underlying48 hi0 hz0 hz1 hz2 rfl (by decide) _ 0 [] rfl (own_empty w _ _) (some a) n cap sl rfl (HR.out.grows ((Grows.refl _).alloc _)) ?c1 H1.out ?c2 ?c3 ?c4 ?_)
  case c1 => have := HN.out; omega
  case c2 => unfold maxLen; omega
  case c3 => omega
  case c4 => simp
  intro v w2 hown hgr hat
  have HO := Lib.hid hown
  have HG : Hid (Grows w w2) := ((Grows.refl w).alloc _).grown hgr (fun k e => by cases e; exact Nat.le_refl _)
  clear hown hgr hat
  go_wp2_with fail
  go_ret
  exact ⟨_, rfl, HO.out, HG.out⟩
end Go.Proofs.Ytdomkphljegkiaa
