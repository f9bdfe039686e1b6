/-
  route.places.
-/
import Derived.Test.YtmoploenbppdbaaRtA
import Derived.Test.YtmoploenbppdbaaFl
namespace Go.Proofs.Ytmoploenbppdbaa
open Go.RowKit

theorem st_complex (P : Program) (w : World) (a : Addr) (m : Mode) (k : FloatKind) (x y : Nat) : (store a (.complex k x y) m).run P w = stored P w a (.complex k x y) m := run_store P w a _ m rfl
attribute [local go_sem] st_complex

def cx (s c : Nat) : Value := .complex .f64 (floatOfInt .f64 (s : Int)) (floatOfInt .f64 (c : Int))
def qs (f : Nat → Nat) : List Value := [cx 0 (f 0), cx 1 (f 1), cx 2 (f 2), cx 3 (f 3), cx 4 (f 4)]
def pl (k : Nat) : List Value := (List.range 5).map fun i => if i < k then .complex .f64 (floatOfInt .f64 (i : Int)) 0 else .complex .f64 0 0
theorem pl_step (k : Nat) (hk : k < 5) : (pl k).toArray.setIfInBounds k (.complex .f64 (floatOfInt .f64 (k : Int)) 0) = (pl (k + 1)).toArray := by
  have h5 : k = 0 ∨ k = 1 ∨ k = 2 ∨ k = 3 ∨ k = 4 := by omega
  rcases h5 with rfl | rfl | rfl | rfl | rfl <;> rfl
theorem pl_end : pl 5 = qs fun _ => 0 := by
  simp only [qs, cx, show ((0 : Nat) : Int) = 0 from rfl, fl_zero]
  rfl
theorem qs_at (f : Nat → Nat) (s : Nat) (h : s < 5) : (qs f).toArray[s]? = some (cx s (f s)) := by
  have h5 : s = 0 ∨ s = 1 ∨ s = 2 ∨ s = 3 ∨ s = 4 := by omega
  rcases h5 with rfl | rfl | rfl | rfl | rfl <;> rfl
theorem qs_set (f g : Nat → Nat) (s : Nat) (h : s < 5) (hs : g s = f s + 1) (ho : ∀ i, i ≠ s → g i = f i) : (qs f).toArray.setIfInBounds s (cx s (f s + 1)) = (qs g).toArray := by
  have h5 : s = 0 ∨ s = 1 ∨ s = 2 ∨ s = 3 ∨ s = 4 := by omega
  rcases h5 with rfl | rfl | rfl | rfl | rfl
  · rw [qs, qs, hs, ho 1 (by omega), ho 2 (by omega), ho 3 (by omega), ho 4 (by omega)]; rfl
  · rw [qs, qs, hs, ho 0 (by omega), ho 2 (by omega), ho 3 (by omega), ho 4 (by omega)]; rfl
  · rw [qs, qs, hs, ho 0 (by omega), ho 1 (by omega), ho 3 (by omega), ho 4 (by omega)]; rfl
  · rw [qs, qs, hs, ho 0 (by omega), ho 1 (by omega), ho 2 (by omega), ho 4 (by omega)]; rfl
  · rw [qs, qs, hs, ho 0 (by omega), ho 1 (by omega), ho 2 (by omega), ho 3 (by omega)]; rfl
/-- How many stripes a shard has. -/
def cnt (M : List Int) (i : Nat) : Nat := M.count (i : Int)
theorem cnt_snoc {M : List Int} {k : Nat} (h : k < M.length) (i : Nat) : cnt (M.take (k + 1)) i = cnt (M.take k) i + if M.getD k 0 = (i : Int) then 1 else 0 := by
  unfold cnt
  rw [List.take_succ_eq_append_getElem h, List.count_append]
  simp [List.getElem?_eq_getElem h, List.count_singleton]
theorem z41 (W : World) : (zeroValue 41).run Try.prog W = .ok (.agg (pl 0).toArray) W := by kernel_rfl
theorem one_qs (f : Nat → Nat) : (qs f).toArray.all (·.oneCell') = true := by
  apply all_oneCell_toArray
  intro v hv
  simp only [qs, List.mem_cons, List.not_mem_nil, or_false] at hv
  rcases hv with rfl | rfl | rfl | rfl | rfl <;> rfl

set_option maxHeartbeats 1000000 in
theorem places_any (o0 o1 o2 o3 o4 o5 o6 o7 : Int) (M : List Int) (hM : [o0, o1, o2, o3, o4, o5, o6, o7] = M) (hok : okR M = true) (w : World) :
    Calls Try.prog 14 #[.agg #[.int .i64 o0, .int .i64 o1, .int .i64 o2, .int .i64 o3, .int .i64 o4, .int .i64 o5, .int .i64 o6, .int .i64 o7]] w fun e w' => e = .returned (.agg (qs (cnt M)).toArray) ∧ Grows w w' := by
  have h8 : M.length = 8 := by rw [← hM]; rfl
  have hix : ∀ (k : Nat) (W : World), k < 8 → (Instr.index 22 (.agg #[.int .i64 o0, .int .i64 o1, .int .i64 o2, .int .i64 o3, .int .i64 o4, .int .i64 o5, .int .i64 o6, .int .i64 o7]) (.int .i64 (k : Int))).run Try.prog W = .ok (.int .i64 (M.getD k 0)) W := fun k W hk => by rw [← hM]; exact idx8 o0 o1 o2 o3 o4 o5 o6 o7 k hk W
  have hbd : ∀ k, k < 8 → 1 ≤ M.getD k 0 ∧ M.getD k 0 ≤ 4 := by
    intro k hk
    apply isS_bd
    have := List.all_eq_true.1 hok (M.getD k 0) (by
      rw [List.getD_eq_getElem?_getD, List.getElem?_eq_getElem (show k < M.length by omega)]
      exact List.getElem_mem _)
    exact this
  have HX := Lib.hid hix
  have H8 := Lib.hid h8
  have HBD := Lib.hid hbd
  have hz := z41
  have HM0 := Lib.hid (((At.new w 22 #[.int .i64 o0, .int .i64 o1, .int .i64 o2, .int .i64 o3, .int .i64 o4, .int .i64 o5, .int .i64 o6, .int .i64 o7]).alloc (.cells (pl 0).toArray 41)).alloc (.cells (pl 0).toArray 41))
  have R0 := (At.new (w.alloc (.cells #[.int .i64 o0, .int .i64 o1, .int .i64 o2, .int .i64 o3, .int .i64 o4, .int .i64 o5, .int .i64 o6, .int .i64 o7] 22)) 41 (pl 0).toArray).alloc (.cells (pl 0).toArray 41)
  have L0 := At.new ((w.alloc (.cells #[.int .i64 o0, .int .i64 o1, .int .i64 o2, .int .i64 o3, .int .i64 o4, .int .i64 o5, .int .i64 o6, .int .i64 o7] 22)).alloc (.cells (pl 0).toArray 41)) 41 (pl 0).toArray
  have G0 := ((((Grows.refl w).alloc (.cells #[.int .i64 o0, .int .i64 o1, .int .i64 o2, .int .i64 o3, .int .i64 o4, .int .i64 o5, .int .i64 o6, .int .i64 o7] 22)).alloc (.cells (pl 0).toArray 41)).alloc (.cells (pl 0).toArray 41))
  simp only [World.size_alloc] at R0 L0
  have HR0 := Lib.hid R0
  have HL0 := Lib.hid L0
  clear hM hix h8 hbd hok R0 L0
  generalize hpl : pl 0 = P0 at *
  have HPL := Lib.hid hpl
  clear hpl
  go_enter Try.func14, Try.ntmps14
  go_wp2_with fail
  go_loopg [7] 5 (fun gh i wr => ∃ (k : Nat), k + gh = 5 ∧ i = .int .i64 (k : Int) ∧ Grows w wr ∧ At wr w.heap.size 22 #[.int .i64 o0, .int .i64 o1, .int .i64 o2, .int .i64 o3, .int .i64 o4, .int .i64 o5, .int .i64 o6, .int .i64 o7] ∧ At wr (w.heap.size + 1) 41 P0.toArray ∧ At wr (w.heap.size + 1 + 1) 41 (pl k).toArray)
  case atStart => exact ⟨0, by omega, rfl, G0, HM0.out, HR0.out, by rw [HPL.out]; exact HL0.out⟩
  case round =>
    obtain ⟨k, hk, rfl, hg, hm, hr, hl⟩ := hrel
    by_cases hlt : k < 5
    · have hlt' : (k : Int) < 5 := by omega
      have hk0 : (0 : Int) ≤ (k : Int) := by omega
      have HM := Lib.hid hm
      have HR := Lib.hid hr
      have HL := Lib.hid hl
      have hc := hl.cell k
      have hf := hl.frozen k
      rw [show (pl k).toArray[k]? = some (.complex .f64 0 0) by simp [pl, hlt]] at hc
      clear hm hr hl
      go_wp2_with fail
      go_roundg (gk - 1)
      case measure => omega
      case rel => exact ⟨k + 1, by omega, by go_num, hg.setCell (by simp; omega) _, HM.out.far (by simp; omega) _, HR.out.far (by simp) _, by rw [← pl_step k hlt]; exact HL.out.set k _⟩
    · obtain rfl : k = 5 := by omega
      rw [pl_end] at hl
      have HM := Lib.hid hm
      have HR := Lib.hid hr
      have HL := Lib.hid hl
      have cm := hm.cell
      clear hm hr hl
      obtain ⟨wo, hwo⟩ : ∃ wo : World, wo = wr := ⟨_, rfl⟩
      subst hwo
      obtain ⟨go, hgo⟩ : ∃ go : Nat, go = gk := ⟨_, rfl⟩
      subst hgo
      go_wp2_with fail
      clear cm
      go_loopg [17] 8 (fun gh i wr => ∃ (k : Nat), k + gh = 8 ∧ i = .int .i64 (k : Int) ∧ Grows w wr ∧ At wr (w.heap.size + 1) 41 P0.toArray ∧ At wr (w.heap.size + 1 + 1) 41 (qs (cnt (M.take k))).toArray)
      case atStart => exact ⟨0, by omega, rfl, hg, HR.out, HL.out⟩
      case round =>
        obtain ⟨k, hk, rfl, hg, hr, hl⟩ := hrel
        by_cases hlt : k < 8
        · have hlt' : (k : Int) < 8 := by omega
          have hk0 : (0 : Int) ≤ (k : Int) := by omega
          have hb := HBD.out k hlt
          have hix := fun W => HX.out k W hlt
          have hsn := fun i => cnt_snoc (M := M) (k := k) (by rw [H8.out]; exact hlt) i
          have hcl : ∀ i, cnt (M.take k) i ≤ 8 := fun i => Nat.le_trans List.count_le_length (by simp; omega)
          generalize hs : M.getD k 0 = s at *
          clear hs
          obtain ⟨sn, rfl⟩ : ∃ n : Nat, s = (n : Int) := ⟨s.toNat, by omega⟩
          have hc := hl.cell sn
          have hf := hl.frozen sn
          rw [qs_at _ sn (by omega)] at hc
          have HL := Lib.hid hl
          have HR := Lib.hid hr
          have hs5 : (sn : Int) < 5 := by omega
          have hs0 : (0 : Int) ≤ (sn : Int) := by omega
          have HST := Lib.hid (qs_set (cnt (M.take k)) (cnt (M.take (k + 1))) sn (by omega) (by rw [hsn, if_pos rfl]) (fun i hi => by rw [hsn, if_neg (by omega)]; rfl))
          have hadd : ∀ W, (binOp .add 40 (.complex .f64 (floatOfInt .f64 (sn : Int)) (floatOfInt .f64 ((cnt (M.take k) sn : Nat) : Int))) (.complex .f64 0 4607182418800017408)).run Try.prog W = .ok (.complex .f64 (floatOfInt .f64 (sn : Int)) (floatOfInt .f64 ((cnt (M.take k) sn + 1 : Nat) : Int))) W := fun W =>
            run_complex_sum W .add (.inl rfl) _ _ _ _ _ _ _ _ (fl_sum sn (by omega) _ (by have := hcl sn; omega))
          unfold cx at hc HST
          generalize cnt (M.take k) sn = c at *
          generalize floatOfInt .f64 ((c + 1 : Nat) : Int) = fc1 at *
          clear hl hr hsn hcl
          go_wp2_with fail
          go_roundg (gk - 1)
          case measure => omega
          case rel => exact ⟨k + 1, by omega, by go_num, hg.setCell (by simp; omega) _, HR.out.far (by simp) _, by rw [← HST.out]; exact HL.out.set sn _⟩
        · obtain rfl : k = 8 := by omega
          rw [List.take_of_length_le (by rw [H8.out]; exact Nat.le_refl _)] at hl
          have HL := Lib.hid hl
          have HR := Lib.hid hr
          have HT := Lib.hid (hr.there 0 5 (by rw [← HPL.out]; simp [pl]))
          clear hl hr
          have HQ : Hid ((qs (cnt M)).toArray.size = 5) := rfl
          go_wp2_with (first | (with_reducible refine wpList_load_row (o := ⟨some 26, .load 41 (.tmp 3), _, _, _, none⟩) rfl 41 (.tmp 3) rfl (w.heap.size + 1 + 1) ?a1 41 (qs (cnt M)).toArray (0, 0) (.array 5 40) ?a2 ?a3 rfl ?a5 ?_) | (with_reducible refine wpList_store_mid (op := ⟨none, .store 41 (.tmp 2) (.tmp 26), _, _, _, none⟩) rfl 41 (.tmp 2) (.tmp 26) rfl (w.heap.size + 1) 0 (qs (cnt M)).toArray ?b1 ?b2 ?b3 ?b4 ?b5 ?_))
          case a1 => rfl
          case a2 => exact HL.out
          case a3 => exact Try.underlying41
          case a5 => rw [HQ.out]; kernel_rfl
          case b3 => exact HT.out
          case b4 => rw [HQ.out]; kernel_rfl
          case b5 => exact one_qs _
          refine bodyPost_ret (results_cell_row Try.results14 _ _ (w.heap.size + 1) 41 (qs (cnt M)).toArray (0, 0) _ rfl (At.all HR.out (by rw [← HPL.out]; rfl)) Try.underlying41 rfl (by rw [HQ.out]; kernel_rfl)) rfl ⟨rfl, ?_⟩
          exact Grows.setCells (by omega) _ _ hg
end Go.Proofs.Ytmoploenbppdbaa
