/-
  home: fields, PutSuper$1.
-/
import Derived.Test.YtmcofmidpedkiaaHmI
import Derived.Test.YtmcofmidpedkiaaRws
namespace Go.Proofs.Ytmcofmidpedkiaa
open Go.RowKit Go.Maps

/-- A field's cells. -/
def fc (x : Int × Int) : List Value := [.int .i64 x.1, .int .i64 x.2]
theorem fc_len (x : Int × Int) : (fc x).length = 2 := rfl
theorem fc_one (x : Int × Int) : ∀ u ∈ fc x, u.oneCell' = true := by
  intro u hu
  simp [fc] at hu
  rcases hu with rfl | rfl <;> rfl
/-- A superblock's fields. -/
def flds (n t u i b : Int) (M : List Int) : List (Int × Int) := [(n, 6), (t, 6), (u, 1), (i, 3), (b, 3)] ++ M.map fun z => (z, 1)
theorem info_fld : (Try.prog.info? 75).map (fun i => (i.zero, i.size, i.bytes)) = some (some (.agg #[.int .i64 0, .int .i64 0]), 2, 16) := by kernel_rfl
theorem flds_snoc (n t u i b : Int) (M : List Int) (k : Nat) (hk : k < M.length) : flds n t u i b (M.take (k + 1)) = flds n t u i b (M.take k) ++ [(M.getD k 0, 1)] := by
  rw [List.take_succ_eq_append_getElem hk, List.getD_eq_getElem?_getD, List.getElem?_eq_getElem hk]
  unfold flds
  rw [List.map_append, List.append_assoc]
  rfl
set_option maxHeartbeats 1000000 in
theorem fields_any (n t u i b o0 o1 o2 o3 o4 o5 o6 o7 : Int) (M : List Int) (hM : [o0, o1, o2, o3, o4, o5, o6, o7] = M) (w : World) : Calls Try.prog 32 #[supv n t u i b o0 o1 o2 o3 o4 o5 o6 o7] w fun e w' => ∃ v, e = .returned v ∧ New w 75 2 13 (rowsOf fc (flds n t u i b M)) v w' := by
  unfold supv
  obtain ⟨i0, hi0, hz0, hz1, hz2⟩ := info_parts info_fld
  have h8 : M.length = 8 := by rw [← hM]; rfl
  have hix : ∀ W (k : Nat), k < 8 → (Instr.index 37 (.agg #[.int .i64 o0, .int .i64 o1, .int .i64 o2, .int .i64 o3, .int .i64 o4, .int .i64 o5, .int .i64 o6, .int .i64 o7]) (.int .i64 (k : Int))).run Try.prog W = .ok (.int .i64 (M.getD k 0)) W := fun W k hk => idx8 W o0 o1 o2 o3 o4 o5 o6 o7 M hM k hk
  have HIX := Lib.hid hix
  have H8 := Lib.hid h8
  clear hM h8 hix
  have HA := Lib.hid ((At.new w 39 #[.int .i64 n, .int .i64 t, .int .i64 u, .int .i64 i, .int .i64 b, .int .i64 o0, .int .i64 o1, .int .i64 o2, .int .i64 o3, .int .i64 o4, .int .i64 o5, .int .i64 o6, .int .i64 o7]).alloc (.cells #[.int .i64 n, .int .i64 6, .int .i64 t, .int .i64 6, .int .i64 u, .int .i64 1, .int .i64 i, .int .i64 3, .int .i64 b, .int .i64 3] 75))
  have HG := Lib.hid (((Grows.refl w).alloc (.cells #[.int .i64 n, .int .i64 t, .int .i64 u, .int .i64 i, .int .i64 b, .int .i64 o0, .int .i64 o1, .int .i64 o2, .int .i64 o3, .int .i64 o4, .int .i64 o5, .int .i64 o6, .int .i64 o7] 39)).alloc (.cells #[.int .i64 n, .int .i64 6, .int .i64 t, .int .i64 6, .int .i64 u, .int .i64 1, .int .i64 i, .int .i64 3, .int .i64 b, .int .i64 3] 75))
  have HO : Hid (World.ownsRow ((w.alloc (.cells #[.int .i64 n, .int .i64 t, .int .i64 u, .int .i64 i, .int .i64 b, .int .i64 o0, .int .i64 o1, .int .i64 o2, .int .i64 o3, .int .i64 o4, .int .i64 o5, .int .i64 o6, .int .i64 o7] 39)).alloc (.cells #[.int .i64 n, .int .i64 6, .int .i64 t, .int .i64 6, .int .i64 u, .int .i64 1, .int .i64 i, .int .i64 3, .int .i64 b, .int .i64 3] 75)) w.heap.size 75 2 (.slice (some ⟨w.heap.size + 1, 0, none⟩) 5 5) 5 (rowsOf fc (flds n t u i b (M.take 0)))) := by
    have h := At.new (w.alloc (.cells #[.int .i64 n, .int .i64 t, .int .i64 u, .int .i64 i, .int .i64 b, .int .i64 o0, .int .i64 o1, .int .i64 o2, .int .i64 o3, .int .i64 o4, .int .i64 o5, .int .i64 o6, .int .i64 o7] 39)) 75 #[.int .i64 n, .int .i64 6, .int .i64 t, .int .i64 6, .int .i64 u, .int .i64 1, .int .i64 i, .int .i64 3, .int .i64 b, .int .i64 3]
    rw [World.size_alloc] at h
    exact at_own (xs := rowsOf fc (flds n t u i b (M.take 0))) h (by omega) rfl (by unfold maxLen; omega)
  have ca := HA.out.cell
  have cb := (At.new w 39 #[.int .i64 n, .int .i64 t, .int .i64 u, .int .i64 i, .int .i64 b, .int .i64 o0, .int .i64 o1, .int .i64 o2, .int .i64 o3, .int .i64 o4, .int .i64 o5, .int .i64 o6, .int .i64 o7]).cell
  go_enter Try.func32, Try.ntmps32
  go_wp2_with fail
  go_loopg [3, 24] 8 (fun gh v j wr => ∃ (k : Nat), k + gh = 8 ∧ j = .int .i64 (k : Int) ∧ wr.ownsRow w.heap.size 75 2 v (5 + k) (rowsOf fc (flds n t u i b (M.take k))) ∧ Grows w wr)
  case atStart => exact ⟨0, by omega, rfl, HO.out, HG.out⟩
  case round =>
    obtain ⟨k, hk, rfl, hown, hgr⟩ := hrel
    have HO2 := Lib.hid hown
    have HG2 := Lib.hid hgr
    clear hown hgr ca cb HO HG HA
    by_cases hlt : k < 8
    · have hlt' : (k : Int) < 8 := by omega
      have hk0 : (0 : Int) ≤ (k : Int) := by omega
      have hi := fun W => HIX.out W k hlt
      have HS := Lib.hid (flds_snoc n t u i b M k (by rw [H8.out]; exact hlt))
      generalize M.getD k 0 = z at *
      have HO3 := Lib.hid (own_grows HO2.out ((Grows.refl wr).alloc (.cells #[.int .i64 z, .int .i64 1] 75)))
      have HG3 := Lib.hid (HG2.out.alloc (.cells #[.int .i64 z, .int .i64 1] 75))
      have HR3 := Lib.hid (rd_new wr #[.int .i64 z, .int .i64 1] 75 (0, 0))
      go_wp2_with (at_builtin; refine wpList_append_rd _ rfl (.tmp 27) (.tmp 30) 76 rfl w.heap.size 75 i0 _ 2 16 Try.underlying76 hi0 hz0 hz1 hz2 rfl (by decide) _ (5 + k) _ ?q0 HO3.out (some ⟨wr.heap.size, 0, none⟩) 1 1 (fc (z, 1)) ?q5 HR3.out ?q1 (fc_one _) ?q3 ?q4 HG3.out.size ?_)
      case q1 => rfl
      case q3 => unfold maxLen; omega
      case q4 => omega
      intro v7 w7 hown7 hgr7 _
      have HO7 := Lib.hid hown7
      have HG7 : Hid (Grows w w7) := HG3.out.grown hgr7 (by intro k hk; exact (HO3.out.lt k hk).1)
      clear hown7 hgr7
      go_wp2_with fail
      go_roundg (gk - 1)
      case measure => omega
      case rel => exact ⟨k + 1, by omega, by go_num, by rw [HS.out, rows_append, rows_one]; exact HO7.out, HG7.out⟩
    · obtain rfl : k = 8 := by omega
      have hO := HO2.out
      rw [List.take_of_length_le (by rw [H8.out]; omega)] at hO
      have HO4 := Lib.hid hO
      clear hO HO2
      go_wp2_with fail
      go_ret
      exact ⟨_, rfl, HO4.out, HG2.out⟩

theorem putS1_any (x k : Nat) (h : fitsB x k = true) (w : World) : Calls Try.prog 33 #[.agg #[.int .i64 (x : Int), .int .i64 (k : Int)]] w fun e w' => ∃ v, e = .returned v ∧ NewBy w (digits x k) v w' := by
  have HP := Lib.hid (put_yes [] 0 rfl x k none 0 (w.alloc (.cells #[.int .i64 (x : Int), .int .i64 (k : Int)] 75)) (Rd.nil _ _) h (by omega))
  clear h
  go_enter Try.func33, Try.ntmps33
  go_wp2_with fail
  refine HP.out.mono ?_
  rintro e w2 ⟨v, rfl, hN⟩
  have HN := Lib.hid hN
  clear hN
  go_wp2_with fail
  go_ret
  obtain ⟨a, c, rfl, h1, h2⟩ := HN.out
  exact ⟨_, rfl, a, c, rfl, own_lower h1 ((Grows.refl w).alloc _).size, ((Grows.refl w).alloc _).trans h2⟩
end Go.Proofs.Ytmcofmidpedkiaa
