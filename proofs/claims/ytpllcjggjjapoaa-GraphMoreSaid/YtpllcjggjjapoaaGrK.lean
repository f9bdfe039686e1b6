/-
  The law GraphMore: its walk.
-/
import Derived.Test.YtpllcjggjjapoaaGrJ
import Derived.Deep.Cut
namespace Go.Proofs.Ytpllcjggjjapoaa
open Go.RowKit Go.Maps

/-- How far a is matched by b's first ones, from at on. -/
def mat (a : List Nm) : List Nm → Nat → Nat
  | [], at_ => at_
  | x :: b, at_ => mat a b (if a[at_]? = some x then at_ + 1 else at_)
theorem mat_snoc (a : List Nm) (x : Nm) : ∀ (b : List Nm) (i : Nat), mat a (b ++ [x]) i = if a[mat a b i]? = some x then mat a b i + 1 else mat a b i
  | [], _ => rfl
  | y :: b, i => by rw [List.cons_append, mat, mat_snoc a x b, mat]
theorem mat_le (a : List Nm) : ∀ (b : List Nm) (i : Nat), i ≤ a.length → mat a b i ≤ a.length
  | [], _, h => h
  | x :: b, i, h => by
    rw [mat]
    refine mat_le a b _ ?_
    split
    · rename_i h1
      exact (List.getElem?_eq_some_iff.1 h1).1
    · exact h
theorem mat_full (a : List Nm) : ∀ (b : List Nm) (i : Nat), i ≤ a.length → (a.drop i).Sublist b → mat a b i = a.length
  | [], i, h, hs => by
    have := List.drop_eq_nil_iff.1 (List.sublist_nil.1 hs)
    rw [mat]; omega
  | x :: b, i, h, hs => by
    rw [mat]
    by_cases hi : i < a.length
    · rw [List.drop_eq_getElem_cons hi] at hs
      by_cases he : a[i]? = some x
      · rw [if_pos he]
        refine mat_full a b _ hi ?_
        rw [List.getElem?_eq_getElem hi] at he
        injection he with he
        cases hs with
        | cons _ h2 => exact (List.sublist_cons_self _ _).trans h2
        | cons_cons _ h2 => exact h2
      · rw [if_neg he]
        refine mat_full a b _ h ?_
        rw [List.drop_eq_getElem_cons hi]
        rw [List.getElem?_eq_getElem hi] at he
        cases hs with
        | cons _ h2 => exact h2
        | cons_cons _ h2 => exact absurd rfl he
    · have hn : a[i]? ≠ some x := by rw [List.getElem?_eq_none (by omega)]; simp
      rw [if_neg hn]
      refine mat_full a b _ h ?_
      rw [List.drop_eq_nil_iff.2 (by omega)]
      exact List.nil_sublist _

theorem mat_done {a b : List Nm} {i : Nat} (h : a.Sublist b) (hi : a.length ≤ mat a (b.take i) 0 ∨ b.length ≤ i) : mat a (b.take i) 0 = a.length := by
  rcases hi with hi | hi
  · exact Nat.le_antisymm (mat_le a _ 0 (Nat.zero_le _)) hi
  · rw [List.take_of_length_le hi]
    exact mat_full a b 0 (Nat.zero_le _) h
theorem info_edge : (Try.prog.info? 32).map (fun i => (i.zero, i.size, i.bytes)) = some (some (.agg #[.int .i64 0, .int .i64 0, .int .i64 0, .int .i64 0, .int .i64 0, .int .i64 0]), 6, 48) := by kernel_rfl
theorem eds_one (l : List Ed) : ∀ u ∈ rowsOf Edcs l, u.oneCell' = true := rows_all (fun x u hu => by
  simp only [Edcs, Nm.cs, List.cons_append, List.nil_append, List.mem_cons, List.not_mem_nil, or_false] at hu
  rcases hu with rfl | rfl | rfl | rfl | rfl | rfl <;> rfl) l
def ctN (k : Int) (n : Nat) : Nat := (min (max k 0) n).toNat
theorem ctN_le (k : Int) (n : Nat) : ctN k n ≤ n := by unfold ctN; omega
theorem yng_part {E : List Ed} {c : Nat} (h : yng E = true) : yng (E.take c) = true := by
  unfold yng at *
  rw [List.all_eq_true] at *
  exact fun e he => h e (List.mem_of_mem_take he)
set_option maxRecDepth 100000 in
set_option maxHeartbeats 8000000 in
theorem more_walk (E : List Ed) (n : Nat) (hn : E.length = n) (hok : ∀ e ∈ E, e.1.ok ∧ e.2.ok) (a : Option Addr) (cap : Nat) (hc : n ≤ cap) (hnil : a = none → n = 0 ∧ cap = 0) (k : Int) (x : Nm) (hx : x.ok) (w : World) (hr : Rd w a (rowsOf Edcs E)) :
    Calls Try.prog 3 #[.slice a n cap, .int .i64 k, x.v] w fun e w' => e = .returned (.bool true) ∧ Grows w w' := by
  have HG0 := Lib.hid ((Grows.refl w).alloc (.cells #[.int .i64 x.s, .int .i64 x.i, .int .i64 x.t] 24))
  have HX0 := Lib.hid (At.new w 24 #[.int .i64 x.s, .int .i64 x.i, .int .i64 x.t])
  by_cases hbig : 100 < n
  · have hb : (100 : Int) < (n : Int) := by omega
    clear hn hok hc hnil hr hbig hx
    unfold Nm.v
    go_enter Try.func3, Try.ntmps3
    go_wp2_with fail
    refine (wakes_any _).mono ?_
    rintro e wz ⟨rfl, hgz⟩
    go_wp2_with fail
    go_ret
    exact ⟨rfl, HG0.out.trans hgz⟩
  have hb : ¬ (100 : Int) < (n : Int) := by omega
  obtain ⟨i0, hi0, hz0, hz1, hz2⟩ := info_parts info_edge
  have HN := Lib.hid hn
  have HB := Lib.hid hbig
  have HR := Lib.hid hr
  have HOK := Lib.hid hok
  have HX := Lib.hid hx
  obtain ⟨c, hcc⟩ : ∃ c, ctN k n = c := ⟨_, rfl⟩
  have HCN : Hid (c ≤ n) := Lib.hid (by rw [← hcc]; exact ctN_le k n)
  have HCC := Lib.hid hcc
  have HCAP := Lib.hid hc
  have HNIL := Lib.hid hnil
  clear hn hok hc hnil hr hbig hx hcc
  unfold Nm.v
  go_enter Try.func3, Try.ntmps3
  go_upto_region 3 with (fail)
  obtain ⟨w1, hw1⟩ : ∃ w1, w.alloc (.cells #[.int .i64 x.s, .int .i64 x.i, .int .i64 x.t] 24) = w1 := ⟨_, rfl⟩
  rw [hw1] at HG0 HX0 ⊢
  clear hw1
  go_cut [1] from 13 (fun s1 wx => s1 = .int .i64 (c : Int) ∧ wx = w1)
  case first =>
    have hcc := HCC.out
    unfold ctN at hcc
    go_wp2_with fail
    all_goals
      go_meet
      case rel => exact ⟨congrArg (Value.int .i64) (by omega), rfl⟩
  case rest =>
    obtain ⟨rfl, rfl⟩ := hcut
    obtain ⟨w1, hw1⟩ : ∃ w1, wc = w1 := ⟨_, rfl⟩
    rw [hw1] at HG0 HX0 ⊢
    clear hw1
    have hcn := HCN.out
    have hcap := HCAP.out
    go_upto_region 4 with (fail)
    go_cut [7] from 13 (fun s7 wx => (∃ cp, s7 = .slice a c cp ∧ c ≤ cp) ∧ w1 = wx)
    case first =>
      rcases a with _ | ad
      · obtain ⟨hn0, hc0⟩ := HNIL.out rfl
        obtain rfl : c = 0 := by omega
        subst hn0 hc0
        clear hcn hcap
        go_wp2_with fail
        go_meet
        case rel => exact ⟨⟨0, rfl, Nat.le_refl _⟩, rfl⟩
      · go_wp2_with fail
        go_meet
        case rel => exact ⟨⟨cap, rfl, by omega⟩, rfl⟩
    case rest =>
      obtain ⟨⟨cp, rfl, hcp⟩, rfl⟩ := hcut
      have HCP := Lib.hid hcp
      obtain ⟨P, hP⟩ : ∃ P, E.take c = P := ⟨_, rfl⟩
      have HPE : Hid (∀ e ∈ P, e ∈ E) := Lib.hid (fun e he => by rw [← hP] at he; exact List.mem_of_mem_take he)
      have HPL : Hid (P.length = c) := Lib.hid (by rw [← hP, List.length_take]; have := HN.out; have := HCN.out; omega)
      have HRP : Hid (Rd w a (rowsOf Edcs P)) := Lib.hid (by
        rw [← hP, rows_take Edcs_len E c (by have := HN.out; have := HCN.out; omega)]
        exact rd_take HR.out _)
      have HPO : Hid (∀ e ∈ P, e.1.ok ∧ e.2.ok) := Lib.hid (fun e he => HOK.out e (HPE.out e he))
      have HYP : Hid (yng E = true → yng P = true) := Lib.hid (fun h => by rw [← hP]; exact yng_part h)
      have HCL := Lib.hid (fun W (hg : Grows w W) => Circle_any E n HN.out (by have := HB.out; omega) HOK.out a cap W (HR.out.grows hg))
      have HCQ := Lib.hid (fun W (hg : Grows w W) => Circle_any P c HPL.out (by have := HB.out; have := HCN.out; omega) HPO.out a cp W (HRP.out.grows hg))
      have HDL := Lib.hid (fun W (hg : Grows w W) => Deep_any E n HN.out (by have := HB.out; omega) HOK.out a cap W (HR.out.grows hg))
      have HDP := Lib.hid (fun W (hg : Grows w W) => Deep_any P c HPL.out (by have := HB.out; have := HCN.out; omega) HPO.out a cp W (HRP.out.grows hg))
      have HYL := Lib.hid (fun W (hg : Grows w W) => Young_any E n HN.out (by have := HB.out; omega) a cap W (HR.out.grows hg))
      have HYQ := Lib.hid (fun W (hg : Grows w W) => Young_any P c HPL.out (by have := HB.out; have := HCN.out; omega) a cp W (HRP.out.grows hg))
      clear hP hcp hcn hcap
      go_upto_region 5 with (fail)
      go_cut [52] from 13 (fun s52 wx => s52 = .bool false ∧ Grows w1 wx)
      case first =>
        have HGC : Hid (Grows w1 w1) := Lib.hid (Grows.refl _)
        have HSC := HG0
        go_wp2_with fail
        refine (HCQ.out _ HSC.out).mono ?_
        rintro e w2 ⟨rfl, hDP, hg⟩
        have HGN := Lib.hid (HGC.out.trans hg)
        have HSN := Lib.hid (HSC.out.trans hg)
        clear hg HGC HSC
        have HGC := HGN
        have HSC := HSN
        clear HGN HSN
        by_cases h1 : dpv P < 0
        · rw [decide_eq_true h1]
          have HDQ := Lib.hid hDP
          have H1 := Lib.hid h1
          clear hDP h1
          go_wp2_with fail
          refine (HCL.out _ HSC.out).mono ?_
          rintro e w3 ⟨rfl, hDL, hg⟩
          have HGN := Lib.hid (HGC.out.trans hg)
          have HSN := Lib.hid (HSC.out.trans hg)
          clear hg HGC HSC
          have HGC := HGN
          have HSC := HSN
          clear HGN HSN
          rw [decide_eq_true (HDQ.out.cyc HPE.out hDL H1.out)]
          clear hDL HDQ H1
          go_wp2_with fail
          refine (HYL.out _ HSC.out).mono ?_
          rintro e w4 ⟨rfl, hg⟩
          have HGN := Lib.hid (HGC.out.trans hg)
          have HSN := Lib.hid (HSC.out.trans hg)
          clear hg HGC HSC
          have HGC := HGN
          have HSC := HSN
          clear HGN HSN
          cases hy : yng E with
          | false =>
            clear hy
            go_wp2_with fail
            refine (HCL.out _ HSC.out).mono ?_
            rintro e w6 ⟨rfl, hDL, hg⟩
            have HGN := Lib.hid (HGC.out.trans hg)
            have HSN := Lib.hid (HSC.out.trans hg)
            clear hg HGC HSC
            have HGC := HGN
            have HSC := HSN
            clear HGN HSN
            by_cases h2 : dpv E < 0
            · rw [decide_eq_true h2]
              clear h2 hDL
              go_wp2_with fail
              go_meet
              case rel => exact ⟨rfl, HGC.out⟩
            · rw [decide_eq_false h2]
              have HNN : Hid (0 ≤ dpv E) := Lib.hid (by omega)
              clear h2 hDL
              go_wp2_with fail
              refine (HDP.out _ HSC.out).mono ?_
              rintro e w7 ⟨rfl, hDP, hg⟩
              have HGN := Lib.hid (HGC.out.trans hg)
              have HSN := Lib.hid (HSC.out.trans hg)
              clear hg HGC HSC
              have HGC := HGN
              have HSC := HSN
              clear HGN HSN
              have HDQ := Lib.hid hDP
              clear hDP
              go_wp2_with fail
              refine (HDL.out _ HSC.out).mono ?_
              rintro e w8 ⟨rfl, hDL, hg⟩
              have HGN := Lib.hid (HGC.out.trans hg)
              have HSN := Lib.hid (HSC.out.trans hg)
              clear hg HGC HSC
              have HGC := HGN
              have HSC := HSN
              clear HGN HSN
              have hle : dpv P ≤ dpv E := HDQ.out.le HPE.out hDL HNN.out
              clear hDL HDQ HNN
              generalize dpv P = vP at *
              generalize dpv E = vL at *
              have hnl : ¬ vL < vP := by omega
              have HNL := Lib.hid (congrArg Value.bool (decide_eq_false hnl))
              clear hle hnl
              go_wp2_with fail
              go_meet
              case rel => exact ⟨HNL.out, HGC.out⟩
          | true =>
            have HYT := Lib.hid (HYP.out hy)
            clear hy
            go_wp2_with fail
            refine (HYQ.out _ HSC.out).mono ?_
            rintro e w5 ⟨rfl, hg⟩
            have HGN := Lib.hid (HGC.out.trans hg)
            have HSN := Lib.hid (HSC.out.trans hg)
            clear hg HGC HSC
            have HGC := HGN
            have HSC := HSN
            clear HGN HSN
            rw [HYT.out]
            go_wp2_with fail
            refine (HCL.out _ HSC.out).mono ?_
            rintro e w6 ⟨rfl, hDL, hg⟩
            have HGN := Lib.hid (HGC.out.trans hg)
            have HSN := Lib.hid (HSC.out.trans hg)
            clear hg HGC HSC
            have HGC := HGN
            have HSC := HSN
            clear HGN HSN
            by_cases h2 : dpv E < 0
            · rw [decide_eq_true h2]
              clear h2 hDL
              go_wp2_with fail
              go_meet
              case rel => exact ⟨rfl, HGC.out⟩
            · rw [decide_eq_false h2]
              have HNN : Hid (0 ≤ dpv E) := Lib.hid (by omega)
              clear h2 hDL
              go_wp2_with fail
              refine (HDP.out _ HSC.out).mono ?_
              rintro e w7 ⟨rfl, hDP, hg⟩
              have HGN := Lib.hid (HGC.out.trans hg)
              have HSN := Lib.hid (HSC.out.trans hg)
              clear hg HGC HSC
              have HGC := HGN
              have HSC := HSN
              clear HGN HSN
              have HDQ := Lib.hid hDP
              clear hDP
              go_wp2_with fail
              refine (HDL.out _ HSC.out).mono ?_
              rintro e w8 ⟨rfl, hDL, hg⟩
              have HGN := Lib.hid (HGC.out.trans hg)
              have HSN := Lib.hid (HSC.out.trans hg)
              clear hg HGC HSC
              have HGC := HGN
              have HSC := HSN
              clear HGN HSN
              have hle : dpv P ≤ dpv E := HDQ.out.le HPE.out hDL HNN.out
              clear hDL HDQ HNN
              generalize dpv P = vP at *
              generalize dpv E = vL at *
              have hnl : ¬ vL < vP := by omega
              have HNL := Lib.hid (congrArg Value.bool (decide_eq_false hnl))
              clear hle hnl
              go_wp2_with fail
              go_meet
              case rel => exact ⟨HNL.out, HGC.out⟩
        · rw [decide_eq_false h1]
          clear hDP h1
          go_wp2_with fail
          refine (HYL.out _ HSC.out).mono ?_
          rintro e w4 ⟨rfl, hg⟩
          have HGN := Lib.hid (HGC.out.trans hg)
          have HSN := Lib.hid (HSC.out.trans hg)
          clear hg HGC HSC
          have HGC := HGN
          have HSC := HSN
          clear HGN HSN
          cases hy : yng E with
          | false =>
            clear hy
            go_wp2_with fail
            refine (HCL.out _ HSC.out).mono ?_
            rintro e w6 ⟨rfl, hDL, hg⟩
            have HGN := Lib.hid (HGC.out.trans hg)
            have HSN := Lib.hid (HSC.out.trans hg)
            clear hg HGC HSC
            have HGC := HGN
            have HSC := HSN
            clear HGN HSN
            by_cases h2 : dpv E < 0
            · rw [decide_eq_true h2]
              clear h2 hDL
              go_wp2_with fail
              go_meet
              case rel => exact ⟨rfl, HGC.out⟩
            · rw [decide_eq_false h2]
              have HNN : Hid (0 ≤ dpv E) := Lib.hid (by omega)
              clear h2 hDL
              go_wp2_with fail
              refine (HDP.out _ HSC.out).mono ?_
              rintro e w7 ⟨rfl, hDP, hg⟩
              have HGN := Lib.hid (HGC.out.trans hg)
              have HSN := Lib.hid (HSC.out.trans hg)
              clear hg HGC HSC
              have HGC := HGN
              have HSC := HSN
              clear HGN HSN
              have HDQ := Lib.hid hDP
              clear hDP
              go_wp2_with fail
              refine (HDL.out _ HSC.out).mono ?_
              rintro e w8 ⟨rfl, hDL, hg⟩
              have HGN := Lib.hid (HGC.out.trans hg)
              have HSN := Lib.hid (HSC.out.trans hg)
              clear hg HGC HSC
              have HGC := HGN
              have HSC := HSN
              clear HGN HSN
              have hle : dpv P ≤ dpv E := HDQ.out.le HPE.out hDL HNN.out
              clear hDL HDQ HNN
              generalize dpv P = vP at *
              generalize dpv E = vL at *
              have hnl : ¬ vL < vP := by omega
              have HNL := Lib.hid (congrArg Value.bool (decide_eq_false hnl))
              clear hle hnl
              go_wp2_with fail
              go_meet
              case rel => exact ⟨HNL.out, HGC.out⟩
          | true =>
            have HYT := Lib.hid (HYP.out hy)
            clear hy
            go_wp2_with fail
            refine (HYQ.out _ HSC.out).mono ?_
            rintro e w5 ⟨rfl, hg⟩
            have HGN := Lib.hid (HGC.out.trans hg)
            have HSN := Lib.hid (HSC.out.trans hg)
            clear hg HGC HSC
            have HGC := HGN
            have HSC := HSN
            clear HGN HSN
            rw [HYT.out]
            go_wp2_with fail
            refine (HCL.out _ HSC.out).mono ?_
            rintro e w6 ⟨rfl, hDL, hg⟩
            have HGN := Lib.hid (HGC.out.trans hg)
            have HSN := Lib.hid (HSC.out.trans hg)
            clear hg HGC HSC
            have HGC := HGN
            have HSC := HSN
            clear HGN HSN
            by_cases h2 : dpv E < 0
            · rw [decide_eq_true h2]
              clear h2 hDL
              go_wp2_with fail
              go_meet
              case rel => exact ⟨rfl, HGC.out⟩
            · rw [decide_eq_false h2]
              have HNN : Hid (0 ≤ dpv E) := Lib.hid (by omega)
              clear h2 hDL
              go_wp2_with fail
              refine (HDP.out _ HSC.out).mono ?_
              rintro e w7 ⟨rfl, hDP, hg⟩
              have HGN := Lib.hid (HGC.out.trans hg)
              have HSN := Lib.hid (HSC.out.trans hg)
              clear hg HGC HSC
              have HGC := HGN
              have HSC := HSN
              clear HGN HSN
              have HDQ := Lib.hid hDP
              clear hDP
              go_wp2_with fail
              refine (HDL.out _ HSC.out).mono ?_
              rintro e w8 ⟨rfl, hDL, hg⟩
              have HGN := Lib.hid (HGC.out.trans hg)
              have HSN := Lib.hid (HSC.out.trans hg)
              clear hg HGC HSC
              have HGC := HGN
              have HSC := HSN
              clear HGN HSN
              have hle : dpv P ≤ dpv E := HDQ.out.le HPE.out hDL HNN.out
              clear hDL HDQ HNN
              generalize dpv P = vP at *
              generalize dpv E = vL at *
              have hnl : ¬ vL < vP := by omega
              have HNL := Lib.hid (congrArg Value.bool (decide_eq_false hnl))
              clear hle hnl
              go_wp2_with fail
              go_meet
              case rel => exact ⟨HNL.out, HGC.out⟩
      case rest =>
        obtain ⟨rfl, hg⟩ := hcut
        have HS2 := Lib.hid (HG0.out.trans hg)
        have HX2 := Lib.hid (HX0.out.grows hg)
        have HFL := Lib.hid (from_any E n HN.out (by have := HB.out; omega) HOK.out a cap x HX.out wc (HR.out.grows HS2.out))
        have HFP := Lib.hid (fun W (hg : Grows w W) => from_any P c HPL.out (by have := HB.out; have := HCN.out; omega) HPO.out a cp x HX.out W (HRP.out.grows hg))
        unfold Nm.v at HFL HFP
        have cX := HX2.out.cell
        have hlX := HX2.out.lt
        clear hg
        go_wp2_with fail
        refine HFL.out.mono ?_
        rintro e w3 ⟨all, aA, cA, rfl, hrA, hsA, hmA, hlA, hcA, hg⟩
        have HS3 := Lib.hid (HS2.out.trans hg)
        have HX3 := Lib.hid (HX2.out.grows hg)
        have HRA := Lib.hid hrA
        have HSA := Lib.hid hsA
        have HMA := Lib.hid hmA
        have HLA := Lib.hid hlA
        clear hg hrA hsA hmA hcA cX hlX HFL hlA
        have cX := HX3.out.cell
        have hlX := HX3.out.lt
        go_wp2_with fail
        refine (HFP.out _ HS3.out).mono ?_
        rintro e w4 ⟨few, aF, cF, rfl, hrF, hsF, hmF, hlF, hcF, hg⟩
        have HS4 := Lib.hid (HS3.out.trans hg)
        have HX4 := Lib.hid (HX3.out.grows hg)
        have HRA4 := Lib.hid (HRA.out.grows hg)
        have HRF4 := Lib.hid hrF
        have HLF := Lib.hid hlF
        have HSUB : Hid (few.Sublist all) := Lib.hid (strict_sub hsF HSA.out fun z hz => (HMA.out z).2 (((hmF z).1 hz).mono HPE.out))
        clear hg hrF hsF hmF hcF cX hlX HFP hlF
        go_wp2_with fail
        go_loopg [10, 11] all.length (fun gh v10 v11 wr => ∃ i : Nat, gh + i = all.length ∧ v11 = .int .i64 (i : Int) ∧ v10 = .int .i64 ((mat few (all.take i) 0 : Nat) : Int) ∧ Grows w4 wr)
        case atStart => exact ⟨0, by omega, rfl, rfl, Grows.refl _⟩
        case round =>
          obtain ⟨i, hgi, rfl, rfl, hg⟩ := hrel
          have HG := Lib.hid hg
          clear hg
          obtain ⟨q, hq⟩ : ∃ q, mat few (all.take i) 0 = q := ⟨_, rfl⟩
          rw [hq]
          have HQ := Lib.hid hq
          have hla := HLA.out
          have hlf := HLF.out
          clear hq
          by_cases hlt : i < all.length
          · by_cases hqlt : q < few.length
            · obtain ⟨gA, oA, rfl, _, d0, d1, d2⟩ := cells3 (HRA4.out.grows HG.out) hlt
              obtain ⟨gF, oF, rfl, _, a0, a1, a2⟩ := cells3 (HRF4.out.grows HG.out) hqlt
              have HSN : Hid (mat few (all.take (i + 1)) 0 = if few[q]? = some all[i] then q + 1 else q) := Lib.hid (by
                rw [List.take_add_one, List.getElem?_eq_getElem hlt]
                show mat few (all.take i ++ [all[i]]) 0 = _
                rw [mat_snoc, HQ.out])
              have HY := Lib.hid (List.getElem?_eq_getElem hqlt)
              generalize all[i] = u at *
              generalize few[q] = v at *
              have he := eqn_any
              by_cases huv : u = v
              · have hd : decide (u = v) = true := by simp [huv]
                have HE : Hid (mat few (all.take (i + 1)) 0 = q + 1) := Lib.hid (by rw [HSN.out, HY.out, huv, if_pos rfl])
                clear huv
                go_wp2_with fail
                go_quiet (fail)
                go_wp2_with fail
                go_roundg (gk - 1)
                case measure => omega
                case rel => exact ⟨i + 1, by omega, by go_num, by rw [HE.out]; go_num, HG.out.drewN _⟩
              · have hd : decide (u = v) = false := by simp [huv]
                have HE : Hid (mat few (all.take (i + 1)) 0 = q) := Lib.hid (by rw [HSN.out, HY.out, if_neg (fun h => huv (by injection h with h; exact h.symm))])
                clear huv
                go_wp2_with fail
                go_quiet (fail)
                go_wp2_with fail
                go_roundg (gk - 1)
                case measure => omega
                case rel => exact ⟨i + 1, by omega, by go_num, by rw [HE.out], HG.out.drewN _⟩
            · have hqe : q = few.length := by rw [← HQ.out]; exact mat_done HSUB.out (.inl (by rw [HQ.out]; omega))
              subst hqe
              have HS5 := Lib.hid (HS4.out.trans HG.out)
              have HX5 := Lib.hid (HX4.out.grows HG.out)
              have HRA5 := Lib.hid (HRA4.out.grows HG.out)
              have HRE5 := Lib.hid (HR.out.grows HS5.out)
              generalize wr = w5 at *
              go_wp2_with (first | (at_builtin; (refine wpList_append_rd _ rfl (.tmp 82) (.tmp 83) 22 rfl w5.heap.size 32 i0 (.agg #[.int .i64 0, .int .i64 0, .int .i64 0, .int .i64 0, .int .i64 0, .int .i64 0]) 6 48 Try.underlying22 hi0 hz0 hz1 hz2 rfl (by decide) (.slice none 0 0) 0 [] rfl (World.ownsRow_nil _ _ _ _) a n cap (rowsOf Edcs E) rfl HRE5.out ?k1 (eds_one E) ?k2 ?k3 (Nat.le_refl _) ?kapp)))
              case k1 => rw [rows_length Edcs_len, HN.out]
              case k2 => unfold maxLen; have := HB.out; omega
              case k3 => have := HB.out; omega
              case kapp =>
                intro v6 w6 hown hgr hbl
                have HOWN6 := Lib.hid hown
                have HG6 : Hid (Grows w5 w6) := Lib.hid ((Grows.refl w5).grown hgr (fun _ h => by cases h))
                have HRP6 := Lib.hid (HRP.out.grows (HS5.out.trans HG6.out))
                obtain ⟨a6, c6, hv6, _⟩ := own_slice hown
                subst hv6
                clear hown hgr hbl
                go_wp2_with (first | (at_builtin; (refine wpList_append_rd _ rfl (.tmp 85) (.tmp 86) 22 rfl w5.heap.size 32 i0 (.agg #[.int .i64 0, .int .i64 0, .int .i64 0, .int .i64 0, .int .i64 0, .int .i64 0]) 6 48 Try.underlying22 hi0 hz0 hz1 hz2 rfl (by decide) _ _ (rowsOf Edcs E) rfl HOWN6.out a c cp (rowsOf Edcs P) rfl HRP6.out ?l1 (eds_one P) ?l2 ?l3 HG6.out.size ?lapp)))
                case l1 => rw [rows_length Edcs_len, HPL.out]
                case l2 => unfold maxLen; have := HB.out; have := HCN.out; omega
                case l3 => have := HB.out; have := HCN.out; omega
                case lapp =>
                  intro v7 w7 hown hgr hbl
                  rw [← rows_append] at hown
                  have HG7 : Hid (Grows w5 w7) := Lib.hid (HG6.out.grown hgr (fun b hb => (own_typed HOWN6.out hb).choose_spec.2.1))
                  have HS7 := Lib.hid (HS5.out.trans HG7.out)
                  have HX7 := Lib.hid (HX5.out.grows HG7.out)
                  have HRA7 := Lib.hid (HRA5.out.grows HG7.out)
                  obtain ⟨a7, c7, hv7, hc7, _⟩ := own_slice hown
                  subst hv7
                  have HR7 := Lib.hid (Rd.own hown)
                  have HL7 : Hid ((E ++ P).length = n + c) := Lib.hid (by rw [List.length_append, HN.out, HPL.out])
                  have HO7 : Hid (∀ e ∈ E ++ P, e.1.ok ∧ e.2.ok) := Lib.hid (fun e he => by
                    rcases List.mem_append.1 he with he | he
                    · exact HOK.out e he
                    · exact HPO.out e he)
                  have HEQ : Hid (∀ e, e ∈ E ++ P ↔ e ∈ E) := Lib.hid (fun e => by
                    rw [List.mem_append]
                    exact ⟨fun h => h.elim id (HPE.out e), .inl⟩)
                  have HNC : Hid (n + c ≤ 200) := Lib.hid (by have := HB.out; have := HCN.out; omega)
                  have HDE := Lib.hid (Deep_any (E ++ P) (n + c) HL7.out HNC.out HO7.out a7 c7 w7 HR7.out)
                  have HFE := Lib.hid (fun W (hg : Grows w7 W) => from_any (E ++ P) (n + c) HL7.out HNC.out HO7.out a7 c7 x HX.out W (HR7.out.grows hg))
                  unfold Nm.v at HFE
                  clear hown hgr hbl hc7
                  go_wp2_with fail
                  refine HDE.out.mono ?_
                  rintro e w8 ⟨rfl, hd8, hg8⟩
                  have HD8 := Lib.hid hd8
                  have HG8 := Lib.hid hg8
                  clear hd8 hg8
                  go_wp2_with fail
                  refine (HDL.out _ (HS7.out.trans HG8.out)).mono ?_
                  rintro e w9 ⟨rfl, hd9, hg9⟩
                  have hde := DeepS.eq HEQ.out HD8.out hd9
                  rw [hde]
                  have HG9 := Lib.hid (HG8.out.trans hg9)
                  have hX9 := HX7.out.grows HG9.out
                  have cX := hX9.cell
                  have hlX := hX9.lt
                  clear hd9 hg9 hde HD8 HG8 hX9
                  generalize dpv E = vL at *
                  go_wp2_with fail
                  refine (HFE.out _ HG9.out).mono ?_
                  rintro e w10 ⟨r, aR, cR, rfl, hrR, hsR, hmR, hlR, hcR, hg⟩
                  have hre : r = all := strict_eq hsR HSA.out (fun z => (hmR z).trans (Iff.trans ⟨fun h => h.mono (fun e he => (HEQ.out e).1 he), fun h => h.mono (fun e he => (HEQ.out e).2 he)⟩ (HMA.out z).symm))
                  subst hre
                  have HG10 := Lib.hid (HG9.out.trans hg)
                  have HNM := Lib.hid (names_same r (by have := HLA.out; omega) aR aA cR cA w10 hrR (HRA7.out.grows HG10.out))
                  clear hrR hsR hmR hlR hcR hg cX hlX
                  go_wp2_with fail
                  refine HNM.out.mono ?_
                  rintro e w11 ⟨rfl, hg⟩
                  have HG11 := Lib.hid (HG10.out.trans hg)
                  clear hg
                  go_wp2_with fail
                  refine (wakes_any _).mono ?_
                  rintro e w12 ⟨rfl, hg⟩
                  have HG12 := Lib.hid (HS7.out.trans (HG11.out.trans hg))
                  clear hg
                  go_wp2_with fail
                  go_ret
                  exact ⟨rfl, HG12.out⟩
          · have hqe : q = few.length := by rw [← HQ.out]; exact mat_done HSUB.out (.inr (by omega))
            subst hqe
            have HS5 := Lib.hid (HS4.out.trans HG.out)
            have HX5 := Lib.hid (HX4.out.grows HG.out)
            have HRA5 := Lib.hid (HRA4.out.grows HG.out)
            have HRE5 := Lib.hid (HR.out.grows HS5.out)
            generalize wr = w5 at *
            go_wp2_with (first | (at_builtin; (refine wpList_append_rd _ rfl (.tmp 82) (.tmp 83) 22 rfl w5.heap.size 32 i0 (.agg #[.int .i64 0, .int .i64 0, .int .i64 0, .int .i64 0, .int .i64 0, .int .i64 0]) 6 48 Try.underlying22 hi0 hz0 hz1 hz2 rfl (by decide) (.slice none 0 0) 0 [] rfl (World.ownsRow_nil _ _ _ _) a n cap (rowsOf Edcs E) rfl HRE5.out ?k1 (eds_one E) ?k2 ?k3 (Nat.le_refl _) ?kapp)))
            case k1 => rw [rows_length Edcs_len, HN.out]
            case k2 => unfold maxLen; have := HB.out; omega
            case k3 => have := HB.out; omega
            case kapp =>
              intro v6 w6 hown hgr hbl
              have HOWN6 := Lib.hid hown
              have HG6 : Hid (Grows w5 w6) := Lib.hid ((Grows.refl w5).grown hgr (fun _ h => by cases h))
              have HRP6 := Lib.hid (HRP.out.grows (HS5.out.trans HG6.out))
              obtain ⟨a6, c6, hv6, _⟩ := own_slice hown
              subst hv6
              clear hown hgr hbl
              go_wp2_with (first | (at_builtin; (refine wpList_append_rd _ rfl (.tmp 85) (.tmp 86) 22 rfl w5.heap.size 32 i0 (.agg #[.int .i64 0, .int .i64 0, .int .i64 0, .int .i64 0, .int .i64 0, .int .i64 0]) 6 48 Try.underlying22 hi0 hz0 hz1 hz2 rfl (by decide) _ _ (rowsOf Edcs E) rfl HOWN6.out a c cp (rowsOf Edcs P) rfl HRP6.out ?l1 (eds_one P) ?l2 ?l3 HG6.out.size ?lapp)))
              case l1 => rw [rows_length Edcs_len, HPL.out]
              case l2 => unfold maxLen; have := HB.out; have := HCN.out; omega
              case l3 => have := HB.out; have := HCN.out; omega
              case lapp =>
                intro v7 w7 hown hgr hbl
                rw [← rows_append] at hown
                have HG7 : Hid (Grows w5 w7) := Lib.hid (HG6.out.grown hgr (fun b hb => (own_typed HOWN6.out hb).choose_spec.2.1))
                have HS7 := Lib.hid (HS5.out.trans HG7.out)
                have HX7 := Lib.hid (HX5.out.grows HG7.out)
                have HRA7 := Lib.hid (HRA5.out.grows HG7.out)
                obtain ⟨a7, c7, hv7, hc7, _⟩ := own_slice hown
                subst hv7
                have HR7 := Lib.hid (Rd.own hown)
                have HL7 : Hid ((E ++ P).length = n + c) := Lib.hid (by rw [List.length_append, HN.out, HPL.out])
                have HO7 : Hid (∀ e ∈ E ++ P, e.1.ok ∧ e.2.ok) := Lib.hid (fun e he => by
                  rcases List.mem_append.1 he with he | he
                  · exact HOK.out e he
                  · exact HPO.out e he)
                have HEQ : Hid (∀ e, e ∈ E ++ P ↔ e ∈ E) := Lib.hid (fun e => by
                  rw [List.mem_append]
                  exact ⟨fun h => h.elim id (HPE.out e), .inl⟩)
                have HNC : Hid (n + c ≤ 200) := Lib.hid (by have := HB.out; have := HCN.out; omega)
                have HDE := Lib.hid (Deep_any (E ++ P) (n + c) HL7.out HNC.out HO7.out a7 c7 w7 HR7.out)
                have HFE := Lib.hid (fun W (hg : Grows w7 W) => from_any (E ++ P) (n + c) HL7.out HNC.out HO7.out a7 c7 x HX.out W (HR7.out.grows hg))
                unfold Nm.v at HFE
                clear hown hgr hbl hc7
                go_wp2_with fail
                refine HDE.out.mono ?_
                rintro e w8 ⟨rfl, hd8, hg8⟩
                have HD8 := Lib.hid hd8
                have HG8 := Lib.hid hg8
                clear hd8 hg8
                go_wp2_with fail
                refine (HDL.out _ (HS7.out.trans HG8.out)).mono ?_
                rintro e w9 ⟨rfl, hd9, hg9⟩
                have hde := DeepS.eq HEQ.out HD8.out hd9
                rw [hde]
                have HG9 := Lib.hid (HG8.out.trans hg9)
                have hX9 := HX7.out.grows HG9.out
                have cX := hX9.cell
                have hlX := hX9.lt
                clear hd9 hg9 hde HD8 HG8 hX9
                generalize dpv E = vL at *
                go_wp2_with fail
                refine (HFE.out _ HG9.out).mono ?_
                rintro e w10 ⟨r, aR, cR, rfl, hrR, hsR, hmR, hlR, hcR, hg⟩
                have hre : r = all := strict_eq hsR HSA.out (fun z => (hmR z).trans (Iff.trans ⟨fun h => h.mono (fun e he => (HEQ.out e).1 he), fun h => h.mono (fun e he => (HEQ.out e).2 he)⟩ (HMA.out z).symm))
                subst hre
                have HG10 := Lib.hid (HG9.out.trans hg)
                have HNM := Lib.hid (names_same r (by have := HLA.out; omega) aR aA cR cA w10 hrR (HRA7.out.grows HG10.out))
                clear hrR hsR hmR hlR hcR hg cX hlX
                go_wp2_with fail
                refine HNM.out.mono ?_
                rintro e w11 ⟨rfl, hg⟩
                have HG11 := Lib.hid (HG10.out.trans hg)
                clear hg
                go_wp2_with fail
                refine (wakes_any _).mono ?_
                rintro e w12 ⟨rfl, hg⟩
                have HG12 := Lib.hid (HS7.out.trans (HG11.out.trans hg))
                clear hg
                go_wp2_with fail
                go_ret
                exact ⟨rfl, HG12.out⟩
end Go.Proofs.Ytpllcjggjjapoaa
