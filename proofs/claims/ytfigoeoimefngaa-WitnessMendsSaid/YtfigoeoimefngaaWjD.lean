/-
  cashboxref27.Order.
-/
import Derived.Test.YtfigoeoimefngaaWjC
import Derived.Test.YtfigoeoimefngaaOrO
namespace Go.Proofs.Ytfigoeoimefngaa
open Go.RowKit Go.Maps Go.Shelf

theorem info_name : (Try.prog.info? 29).map (fun i => (i.zero, i.size, i.bytes)) = some (some (.agg #[.int .i64 0, .int .i64 0, .int .i64 0]), 3, 24) := by kernel_rfl
theorem names_one (l : List Nm) : ∀ u ∈ rowsOf Nm.cs l, u.oneCell' = true := rows_all (fun x u hu => by simp only [Nm.cs, List.mem_cons, List.not_mem_nil, or_false] at hu; rcases hu with rfl | rfl | rfl <;> rfl) l
theorem dec_fst (L : List Sn) (n : Nm) : (tk L n).d = decide (0 ≤ fstI 5 n L) := by
  rw [(tk_flags L n).2.2.2]
  unfold fstI
  by_cases h : L.any (fstB 5 n) = true
  · rw [if_pos h, h]; simp
  · rw [if_neg h]
    rw [Bool.not_eq_true] at h
    rw [h]; rfl
def decK (L : List Sn) (k : Nat) : List Nm := ((L.take k).filter fun x => x.k == 3 && (tk L x.n).d).map Sn.n
theorem decK_len (L : List Sn) (k : Nat) : (decK L k).length ≤ k := by
  unfold decK
  rw [List.length_map]
  refine Nat.le_trans (List.length_filter_le _ _) ?_
  rw [List.length_take]
  omega
theorem decK_all {L : List Sn} {k : Nat} (h : L.length ≤ k) : decK L k = decL L := by unfold decK decL; rw [List.take_of_length_le h]
theorem decK_more {L : List Sn} {k : Nat} {x : Sn} (hx : L[k]? = some x) (h3 : x.k = 3) (hd : 0 ≤ fstI 5 x.n L) : decK L (k + 1) = decK L k ++ [x.n] := by
  unfold decK
  rw [List.take_add_one, hx, Option.toList_some, List.filter_append, List.map_append]
  simp [h3, dec_fst, hd]
theorem decK_same {L : List Sn} {k : Nat} {x : Sn} (hx : L[k]? = some x) (h : ¬ (x.k = 3 ∧ 0 ≤ fstI 5 x.n L)) : decK L (k + 1) = decK L k := by
  unfold decK
  rw [List.take_add_one, hx, Option.toList_some, List.filter_append, List.map_append]
  have : (x.k == 3 && (tk L x.n).d) = false := by
    rw [dec_fst, Bool.and_eq_false_iff]
    rcases Classical.not_and_iff_not_or_not.1 h with h | h
    · left; simp [h]
    · right; simp [h]
  simp [this]
def Ord27 (L : List Sn) (w : World) (e : Ending) (w' : World) : Prop :=
  Grows w w' ∧ ((mayB L = false ∧ e = .returned (.tuple #[.slice none 0 0, .int .i64 2])) ∨ (mayB L = true ∧ ∃ v, e = .returned (.tuple #[v, .int .i64 0]) ∧ w'.ownsRow w.heap.size 29 3 v (decL L).length (rowsOf Nm.cs (decL L))))
set_option maxRecDepth 100000 in
set_option maxHeartbeats 8000000 in
theorem order27_any (L : List Sn) (n : Nat) (hn : L.length = n) (hL : n ≤ 1048576) (a : Option Addr) (cap : Nat) (w : World) (hr : Rd w a (rowsOf Sn.cs L)) :
    Calls Try.prog 18 #[.slice a n cap] w (Ord27 L w) := by
  have HR := Lib.hid hr
  have HN := Lib.hid hn
  have HNL := Lib.hid hL
  have HFA := Lib.hid (fun q m W (h : Rd W a (rowsOf Sn.cs L)) => first_any L n hn hL a cap q m W h)
  have HMA := Lib.hid (may27_any L n hn hL a cap w hr)
  clear hr hn hL
  obtain ⟨in0, hin0, hz0, hz1, hz2⟩ := info_parts info_name
  go_enter Try.func18, Try.ntmps18
  go_wp2_with fail
  refine HMA.out.mono ?_
  rintro e w1 ⟨rfl, hg1⟩
  have HG1 := Lib.hid hg1
  clear hg1
  cases hm : mayB L
  · have HM := Lib.hid hm
    go_wp2_with fail
    go_ret2
    exact ⟨HG1.out, .inl ⟨HM.out, rfl⟩⟩
  · have HM := Lib.hid hm
    clear hm
    go_wp2_with fail
    go_loopg [4, 5] n (fun gk v4 v5 wr => ∃ i : Nat, gk + i = n ∧ v5 = .int .i64 (i : Int) ∧ wr.ownsRow w.heap.size 29 3 v4 (decK L i).length (rowsOf Nm.cs (decK L i)) ∧ Grows w wr)
    case atStart => exact ⟨0, by omega, rfl, World.ownsRow_nil _ _ _ _, HG1.out⟩
    case round =>
      obtain ⟨i, hi, rfl, ho, hg⟩ := hrel
      have HGW := Lib.hid hg
      have HO := Lib.hid ho
      obtain ⟨av, cv, rfl, _, _, _⟩ := own_slice ho
      clear hg ho
      by_cases hlt : i < n
      · have hkl : i < L.length := by rw [HN.out]; exact hlt
        obtain ⟨g, off, rfl, hgw, hc⟩ := cells14 (HR.out.grows HGW.out) hkl
        have HX : Hid (L[i]? = some L[i]) := Lib.hid (List.getElem?_eq_getElem hkl)
        generalize L[i] = x at *
        obtain ⟨xk, m, xb, x0, x1, x2, x3, x4, x5, x6, x7, xe⟩ := x
        obtain ⟨c0, c1, c2, c3, c4, c5, c6, c7, c8, c9, c10, c11, c12, c13⟩ := cells14_at hc
        simp only at c0 c1 c2 c3
        have hlt' : (i : Int) < (n : Int) := by omega
        have hi0 : (0 : Int) ≤ (i : Int) := by omega
        have hwr : IntKind.i64.wrap ((i : Int) + 1) = (i : Int) + 1 := IntWalk.i64_in _ (by have := HNL.out; omega)
        clear hc hkl c4 c5 c6 c7 c8 c9 c10 c11 c12 c13
        have HD := Lib.hid (decK_len L i)
        by_cases h3 : xk = 3
        · have e1 : (xk == (3 : Int)) = true := by simp [h3]
          go_wp2_with fail
          refine (HFA.out 5 m _ (HR.out.grows HGW.out)).mono ?_
          rintro e w2 ⟨rfl, hg2⟩
          have HG2 := Lib.hid (HGW.out.trans hg2)
          have HO2 := Lib.hid (own_grows HO.out hg2)
          have k1 := (hg2.cell _ _ hgw).trans c1
          have k2 := (hg2.cell _ _ hgw).trans c2
          have k3 := (hg2.cell _ _ hgw).trans c3
          clear hg2 c0 c1 c2 c3
          by_cases hd : 0 ≤ fstI 5 m L
          · have HMO := Lib.hid (decK_more HX.out h3 hd)
            dsimp only at HMO
            have hrd := rd_new w2 #[.int .i64 m.s, .int .i64 m.i, .int .i64 m.t] 29 (0, 0)
            have HRD := Lib.hid hrd
            have HO3 := Lib.hid (own_grows HO2.out ((Grows.refl w2).alloc (.cells #[.int .i64 m.s, .int .i64 m.i, .int .i64 m.t] 29)))
            clear hrd
            go_wp2_with (at_builtin; (refine wpList_append_rd _ rfl (.tmp 31) (.tmp 37) 49 rfl w.heap.size 29 in0 (.agg #[.int .i64 0, .int .i64 0, .int .i64 0]) 3 24 Try.underlying49 hin0 hz0 hz1 hz2 rfl (by decide) (.slice _ (decK L i).length _) (decK L i).length (rowsOf Nm.cs (decK L i)) rfl HO3.out (some ⟨w2.heap.size, 0, none⟩) 1 1 m.cs rfl HRD.out rfl (names_one [m]) (by have h1 := HD.out; have h2 := HNL.out; unfold maxLen; omega) (by have h1 := HD.out; have h2 := HNL.out; omega) (by have := HG2.out.size; simp; omega) ?app))
            case app =>
              intro v4 w4 hown4 hgr4 hat4
              have HG4 : Hid (Grows w w4) := Lib.hid ((HG2.out.alloc _).grown hgr4 (fun k hk => (own_typed HO2.out hk).choose_spec.2.1))
              have HO4 := Lib.hid hown4
              clear hown4 hgr4 hat4
              go_wp2_with fail
              go_roundg (gk - 1)
              case measure => omega
              exact ⟨i + 1, by omega, by go_num, by rw [HMO.out, List.length_append, rows_append, rows_one]; exact HO4.out, HG4.out⟩
          · go_wp2_with fail
            go_roundg (gk - 1)
            case measure => omega
            exact ⟨i + 1, by omega, by go_num, by rw [decK_same HX.out (by rintro ⟨q1, q2⟩; dsimp only at q1 q2; omega)]; exact HO2.out, HG2.out⟩
        · have e1 : (xk == (3 : Int)) = false := by simp [h3]
          go_wp2_with fail
          go_roundg (gk - 1)
          case measure => omega
          exact ⟨i + 1, by omega, by go_num, by rw [decK_same HX.out (by rintro ⟨q1, q2⟩; dsimp only at q1 q2; omega)]; exact HO.out, HGW.out⟩
      · have : i = n := by omega
        subst this
        have HF := Lib.hid (decK_all (L := L) (k := i) (by rw [HN.out]; exact Nat.le_refl _))
        clear hlt
        go_wp2_with fail
        go_ret2
        refine ⟨HGW.out, .inr ⟨HM.out, _, rfl, ?_⟩⟩
        rw [← HF.out]
        exact HO.out
end Go.Proofs.Ytfigoeoimefngaa
