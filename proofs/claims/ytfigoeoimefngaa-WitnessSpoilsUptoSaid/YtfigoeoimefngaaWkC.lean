/-
  WitnessGrows: the walk.
-/
import Derived.Test.YtfigoeoimefngaaWkA
import Derived.Test.YtfigoeoimefngaaWkB
import Derived.Test.YtfigoeoimefngaaWjA
import Derived.Test.YtfigoeoimefngaaPr
import Derived.Deep.Cut
namespace Go.Proofs.Ytfigoeoimefngaa
open Go.RowKit Go.Maps Go.Shelf

/-- What Wrong tells, in one. -/
structure Told (L : List Sn) (fs : List Ft) (ec : Int) : Prop where
  ok : ∀ f ∈ fs, f.ok
  len : fs.length ≤ 1000000
  is : (mayB L = true ∧ fs = wrongF L ∧ ec = 0) ∨ (mayB L = false ∧ fs = [] ∧ ec = 2)
theorem wrong_told (L : List Sn) (n : Nat) (hn : L.length = n) (hL : n ≤ 1000) (hok : ∀ x ∈ L, x.n.ok ∧ x.wk.ok) (a : Option Addr) (cap : Nat) (w : World) (hr : Rd w a (rowsOf Sn.cs L)) :
    Calls Try.prog 10 #[.slice a n cap] w fun e w' => Grows w w' ∧ ∃ av cv fs ec, e = .returned (.tuple #[.slice av fs.length cv, .int .i64 ec]) ∧ Rd w' av (rowsOf Ft.cs fs) ∧ Told L fs ec := by
  refine (wrong_any L n hn hL hok a cap w hr).mono ?_
  rintro e w' ⟨hg, ⟨hm, rfl⟩ | ⟨hm, v, rfl, ho⟩⟩
  · exact ⟨hg, none, 0, [], 2, rfl, Rd.nil _ _, (fun f h => by cases h), Nat.zero_le _, .inr ⟨hm, rfl, rfl⟩⟩
  · obtain ⟨av, cv, rfl, _, _, _⟩ := own_slice ho
    exact ⟨hg, av, cv, wrongF L, 0, rfl, Rd.own ho, wrongF_ok hm hok, wrongF_len (by omega), .inl ⟨hm, rfl, rfl⟩⟩
def Sn.zero : Sn := ⟨0, Nm.zero, 0, 0, 0, 0, 0, 0, 0, 0, 0, 0⟩
theorem info_sn : (Try.prog.info? 36).map (fun i => (i.zero, i.size, i.bytes)) = some (some (.agg Sn.zero.cs.toArray), 14, 56) := by kernel_rfl
theorem seen_one (l : List Sn) : ∀ u ∈ rowsOf Sn.cs l, u.oneCell' = true := rows_all (fun x u hu => by simp only [Sn.cs, List.mem_cons, List.not_mem_nil, or_false] at hu; rcases hu with rfl | rfl | rfl | rfl | rfl | rfl | rfl | rfl | rfl | rfl | rfl | rfl | rfl | rfl <;> rfl) l
theorem run_append_zero {P : Program} (W : World) (t e : TypeId) (ty : TypeId) (i : TypeInfo) (h1 : P.underlying t = some (.slice e)) (h2 : P.info? e = some i) (b : Nat) (a : Option Addr) (cap : Nat) :
    (Builtin.append_ #[t, t] ty #[.slice (some ⟨b, 0, none⟩) 0 0, .slice a 0 cap]).run P W = .ok (.slice (some ⟨b, 0, none⟩) 0 0) W := by
  cases a <;> simp [Builtin.append_, run_underlying h1, sizeOf, typeInfo, h2, Builtin.lenOf, Builtin.firstCells, loadCells, loadCellsFrom, storeCells]
theorem step_append_zero {P : Program} {w : World} {ops : Array Oper} {o : Oper} {a : Act} {K : Act → World → Prop} {Q : Exit → Act → World → Prop} {E : Prop}
    (hgd : o.guard = none) (s x : Operand) (t : TypeId) (hop : o.op = Op.call { callee := Callee.builtin Builtin.append, args := #[s, x], argTypes := #[t, t] })
    (e : TypeId) (i : TypeInfo) (h1 : P.underlying t = some (.slice e)) (h2 : P.info? e = some i) (b : Nat) (A : Option Addr) (cap : Nat)
    (hs : a.eval s = .slice (some ⟨b, 0, none⟩) 0 0) (hx : a.eval x = .slice A 0 cap) (hK : K (a.put o.dst (.slice (some ⟨b, 0, none⟩) 0 0)) w) :
    if Region.wanted o (yielded ops a.tmps) = true then Oper.wp P o a w K Q else E := by
  have hw : Region.wanted o (yielded ops a.tmps) = true := by simp [Region.wanted, hgd]
  rw [if_pos hw]
  have hrun := run_append_zero (P := P) w t e o.type i h1 h2 b A cap
  unfold Oper.wp
  simp [execOp, hop, resolve, invoke, builtin, hs, hx, hrun, Result.andThen]
  exact hK
theorem At.rd {w : World} {g : Nat} {t : TypeId} {cs : List Value} (h : At w g t cs.toArray) : Rd w (some ⟨g, 0, none⟩) cs := .inr ⟨g, 0, rfl, h.lt, fun i v hv => by rw [Nat.zero_add, h.cell]; simpa using hv⟩
set_option maxRecDepth 100000 in
set_option maxHeartbeats 8000000 in
theorem grows32_walk (L : List Sn) (n : Nat) (hn : L.length = n) (hok : ∀ x ∈ L, x.n.ok ∧ x.wk.ok) (a : Option Addr) (cap : Nat) (m : Nm) (hmo : m.ok) (bs : List Int) (q : Nat) (hq : bs.length = q) (c : Option Addr) (cap2 : Nat) (w : World) (hr : Rd w a (rowsOf Sn.cs L)) (hb : Rd w c (bs.map (Value.int .i64))) :
    Calls Try.prog 4 #[.slice a n cap, m.v, .slice c q cap2] w fun e w' => e = .returned (.bool true) ∧ Grows w w' := by
  have HR := Lib.hid hr
  have HN := Lib.hid hn
  have HOK := Lib.hid hok
  have HBS := Lib.hid hb
  have HQ := Lib.hid hq
  have HMO := Lib.hid hmo
  clear hr hn hok hb hq hmo
  unfold Nm.v
  have HG0 : Hid (Grows w (w.alloc (.cells #[.int .i64 m.s, .int .i64 m.i, .int .i64 m.t] 29))) := Lib.hid ((Grows.refl _).alloc _)
  have HM0 : Hid (At (w.alloc (.cells #[.int .i64 m.s, .int .i64 m.i, .int .i64 m.t] 29)) w.heap.size 29 #[.int .i64 m.s, .int .i64 m.i, .int .i64 m.t]) := Lib.hid (At.new _ _ _)
  by_cases h1 : n ≤ 250
  · have h1i : decide ((n : Int) > 250) = false := decide_eq_false (by omega)
    by_cases h2 : q ≤ 20
    · have h2i : decide ((q : Int) > 20) = false := decide_eq_false (by omega)
      have H1 := Lib.hid h1
      have H2 := Lib.hid h2
      clear h1 h2
      go_enter Try.func4, Try.ntmps4
      go_wp2_with fail
      clear h1i h2i
      generalize w.alloc (.cells #[.int .i64 m.s, .int .i64 m.i, .int .i64 m.t] 29) = w0 at *
      refine (wrong_told L n HN.out (by have := H1.out; omega) HOK.out a cap _ (HR.out.grows HG0.out)).mono ?_
      rintro e w1 ⟨hg, av, cv, fs, ec, rfl, hrf, htold⟩
      have HG := Lib.hid (HG0.out.trans hg)
      have HM1 := Lib.hid (HM0.out.grows hg)
      have HRF := Lib.hid hrf
      have HT := Lib.hid htold
      clear hg hrf htold HM0 HG0
      go_wp2_with fail
      go_loopg [9] n (fun gk v9 wr => ∃ k : Nat, gk + k = n ∧ v9 = .int .i64 (k : Int) ∧ Grows w1 wr ∧ ∀ x ∈ L.take k, x.n ≠ m)
      case atStart => exact ⟨0, by omega, rfl, Grows.refl _, fun x hx => by simp at hx⟩
      case round =>
        obtain ⟨k, hk, rfl, hg, h0⟩ := hrel
        have HGW := Lib.hid hg
        have H0 := Lib.hid h0
        clear hg h0
        by_cases hlt : k < n
        · have hkl : k < L.length := by rw [HN.out]; exact hlt
          obtain ⟨g, off, rfl, hgw, hc⟩ := cells14 ((HR.out.grows HG.out).grows HGW.out) hkl
          have HXK : Hid (L[k]? = some L[k]) := Lib.hid (List.getElem?_eq_getElem hkl)
          generalize L[k] = x at *
          obtain ⟨c0, c1, c2, c3, c4, c5, c6, c7, c8, c9, c10, c11, c12, c13⟩ := cells14_at hc
          have cm := (HM1.out.grows HGW.out).cell
          have hen : ∀ W, (Op.equalIn 10000 29 (.agg #[.int .i64 x.n.s, .int .i64 x.n.i, .int .i64 x.n.t]) (.agg #[.int .i64 m.s, .int .i64 m.i, .int .i64 m.t])).run Try.prog W = .ok (decide (x.n = m)) W := fun W => eqn_any W x.n m
          have hlt' : (k : Int) < (n : Int) := by omega
          have hk0 : (0 : Int) ≤ (k : Int) := by omega
          have hwr : IntKind.i64.wrap ((k : Int) + 1) = (k : Int) + 1 := IntWalk.i64_in _ (by have := H1.out; omega)
          clear hc hkl c0 c4 c5 c6 c7 c8 c9 c10 c11 c12 c13
          by_cases h5 : x.n = m
          · rw [decide_eq_true h5] at hen
            clear h5
            go_wp2_with fail
            go_quiet (fail)
            go_wp2_with fail
            refine (wakes_any _).mono ?_
            rintro e w9 ⟨rfl, hg9⟩
            have HG9 := Lib.hid ((HG.out.trans (HGW.out.trans ((Grows.refl _).drewN _))).trans hg9)
            clear hg9
            go_wp2_with fail
            go_ret
            exact ⟨rfl, HG9.out⟩
          · rw [decide_eq_false h5] at hen
            have HX := Lib.hid h5
            clear h5
            go_wp2_with fail
            go_quiet (fail)
            go_wp2_with fail
            go_roundg (gk - 1)
            case measure => omega
            exact ⟨k + 1, by omega, rfl, HGW.out.drewN _, fun y hy => by
              rw [List.take_add_one, HXK.out] at hy
              rcases List.mem_append.1 hy with hy | hy
              · exact H0.out y hy
              · simp at hy; rw [hy]; exact HX.out⟩
        · have : k = n := by omega
          subst this
          have HOUT : Hid (∀ x ∈ L, x.n ≠ m) := Lib.hid (by have := H0.out; rwa [← HN.out, List.take_length] at this)
          have HGR := Lib.hid (HG.out.trans HGW.out)
          have HM2 := Lib.hid (HM1.out.grows HGW.out)
          have HRF2 := Lib.hid (HRF.out.grows HGW.out)
          clear hlt H0 HG HM1 HRF HGW
          generalize wr = w2 at *
          generalize gk = gk0 at *
          go_upto_region 9 with (fail)
          have HNE : Hid (∀ W, Grows w2 W → Rd W a (rowsOf Sn.cs L)) := Lib.hid (fun W h => (HR.out.grows HGR.out).grows h)
          have HCM : Hid (∀ W, Grows w2 W → At W w.heap.size 29 #[.int .i64 m.s, .int .i64 m.i, .int .i64 m.t]) := Lib.hid (fun W h => HM2.out.grows h)
          obtain ⟨i0, hi0, hz0, hz1, hz2⟩ := info_parts info_sn
          refine Prd.wp_region_pred (by kernel_rfl) (by kernel_rfl) (by kernel_rfl) _ (fun u => by simp only [List.map, Prd.frL, Act.put, List.setIfInBounds_toArray, List.set_cons_zero, List.set_cons_succ, Nat.zero_add, Nat.reduceAdd]; exact rfl)
            (Prd.pv #[undef, .slice a k cap, undef, .agg #[.int .i64 m.s, .int .i64 m.i, .int .i64 m.t], .agg #[.int .i8 0, .int .i64 m.s, .int .i64 m.i, .int .i64 m.t, .int .i64 0, .int .u8 0, .int .u8 0, .int .u8 0, .int .u8 0, .int .u8 0, .int .u8 0, .int .u8 0, .int .u8 0, .int .i64 0]]
              [(0, fun v _ => ∃ b, v = .slice (some ⟨b, 0, none⟩) 0 0),
               (2, fun v W => (k = 0 ∧ ∃ b, v = .slice (some ⟨b, 0, none⟩) 0 0) ∨ (0 < k ∧ W.ownsRow w2.heap.size 36 14 v k (rowsOf Sn.cs L))),
               (5, fun v W => ∃ b, v = .slice (some ⟨b, 0, none⟩) 1 1 ∧ At W b 36 (bgS m).cs.toArray),
               (6, fun v W => W.ownsRow w2.heap.size 36 14 v (k + 1) (rowsOf Sn.cs (moreS L m []))),
               (7, fun v W => W.ownsRow w2.heap.size 36 14 v (k + 1) (rowsOf Sn.cs (moreS L m [])))])
            (fun j => if j = 2 ∨ j = 5 then some 6 else none) (fun W => Grows w2 W) (fun _ => True) none (fun i W W' => if i = 6 then (Grows w2 W → Grows w2 W') else Grows W W')
            ?g0 trivial (fun _ _ _ _ _ h => h) ?gr (Prd.pv_keep _ ⟨?m0, ?m2, ?m5, ?m6, ?m7, trivial⟩) ⟨?s0, ?s1, ?s2, ?s3, ?s4, ?s5, ?s6, ?s7, trivial⟩ ?dn
          case g0 => exact (Grows.refl _).drew
          case gr =>
            intro i W W' h hg
            split at h
            · exact h hg
            · exact hg.trans h
          case m0 => exact fun i v W W' h1 h2 h3 h4 hp => hp
          case m2 =>
            intro i v W W' h1 h2 h3 h4 hp
            rw [if_neg (by rintro rfl; exact h2 rfl)] at h4
            rcases hp with hp | ⟨hp, hq⟩
            · exact .inl hp
            · exact .inr ⟨hp, own_grows hq h4⟩
          case m5 =>
            rintro i v W W' h1 h2 h3 h4 ⟨b, rfl, hp⟩
            rw [if_neg (by rintro rfl; exact h2 rfl)] at h4
            exact ⟨b, rfl, hp.grows h4⟩
          case m6 =>
            intro i v W W' h1 h2 h3 h4 hp
            rw [if_neg h1] at h4
            exact own_grows hp h4
          case m7 =>
            intro i v W W' h1 h2 h3 h4 hp
            rw [if_neg (by rintro rfl; exact Bool.noConfusion (h3.symm.trans (show _ = false by kernel_rfl)))] at h4
            exact own_grows hp h4
          case s0 =>
            intro u W hG _ _ hd K hK
            clear hd
            dsimp only at hK ⊢
            go_simp
            exact hK _ _ (show Grows _ _ from (Grows.refl _).alloc _) ⟨W.heap.size, rfl⟩
          case s1 =>
            intro u W hG _ _ hd K hK
            clear hd
            dsimp only at hK ⊢
            go_simp
            exact hK _ _ (show Grows _ _ from Grows.refl _) rfl
          case s2 =>
            intro u W hG _ _ hd K hK
            obtain ⟨d0, d1, -⟩ := hd
            obtain ⟨b, e0⟩ := d0 rfl (.inl rfl)
            have e1 : u 1 = .slice a k cap := d1 rfl (.inl rfl)
            clear d0 d1
            by_cases hk0 : k = 0
            · rw [hk0] at e1
              exact step_append_zero rfl (.tmp 42) (.tmp 43) 22 rfl 36 i0 Try.underlying22 hi0 b a cap e0 e1 (hK _ _ (show Grows _ _ from Grows.refl _) (.inl ⟨hk0, b, rfl⟩))
            · have hrw := HNE.out W hG
              obtain ⟨ad, rfl⟩ : ∃ ad, a = some ad := by
                obtain ⟨g, off, hag, _⟩ := hrw.at (show 0 < (rowsOf Sn.cs L).length by rw [rows_length Sn.cs_len, HN.out]; omega)
                exact ⟨_, hag⟩
              refine step_append_grows rfl (.tmp 42) (.tmp 43) 22 rfl 36 i0 _ 14 56 Try.underlying22 hi0 hz0 hz1 hz2 rfl (by decide) (some ⟨b, 0, none⟩) 0 0 [] e0 (fun h => (by cases h)) rfl (Rd.nil _ _) ad k cap (rowsOf Sn.cs L) e1 (by rw [rows_length Sn.cs_len, HN.out]) hrw (seen_one L) (by omega) (by unfold maxLen; have := H1.out; omega) (by have := H1.out; omega) ?_
              intro v' w' hown hgr
              have hgg : Grows W w' := (Grows.refl _).grown hgr (by simp)
              refine hK _ _ hgg (.inr ⟨by omega, ?_⟩)
              have := own_lower hown (show w2.heap.size ≤ W.heap.size from hG.size)
              rwa [Nat.zero_add, List.nil_append] at this
          case s3 =>
            intro u W hG _ _ hd K hK
            have cm := (HCM.out W hG).cell
            clear hd
            dsimp only at hK ⊢
            go_simp
            exact hK _ _ (show Grows _ _ from Grows.refl _) rfl
          case s4 =>
            intro u W hG _ _ hd K hK
            obtain ⟨d3, -⟩ := hd
            have e3 : u 3 = .agg #[.int .i64 m.s, .int .i64 m.i, .int .i64 m.t] := d3 rfl (.inl rfl)
            clear d3
            dsimp only at hK ⊢
            generalize u 3 = x3 at e3 hK ⊢
            subst e3
            go_simp
            exact hK _ _ (show Grows _ _ from Grows.refl _) rfl
          case s5 =>
            intro u W hG _ _ hd K hK
            obtain ⟨d4, -⟩ := hd
            have e4 : u 4 = .agg #[.int .i8 0, .int .i64 m.s, .int .i64 m.i, .int .i64 m.t, .int .i64 0, .int .u8 0, .int .u8 0, .int .u8 0, .int .u8 0, .int .u8 0, .int .u8 0, .int .u8 0, .int .u8 0, .int .i64 0] := d4 rfl (.inl rfl)
            clear d4
            dsimp only at hK ⊢
            generalize u 4 = x4 at e4 hK ⊢
            subst e4
            go_simp
            exact hK _ _ (show Grows _ _ from (Grows.refl _).alloc _) ⟨W.heap.size, rfl, At.new _ _ _⟩
          case s6 =>
            intro u W hG _ _ hd K hK
            obtain ⟨d2, d5, -⟩ := hd
            obtain ⟨b5, e5, hA5⟩ := d5 rfl (.inr rfl)
            have hrows : rowsOf Sn.cs (moreS L m []) = rowsOf Sn.cs L ++ (bgS m).cs := by
              unfold moreS bodyS
              rw [show ([bgS m] ++ List.flatMap (fun p => [wrS m p.1 (1 + (p.2 : Int)), rdS m p.1]) ([] : List Int).zipIdx) = [bgS m] from rfl, rows_append, rows_one]
            rcases d2 rfl (.inr rfl) with ⟨hk0, b, e2⟩ | ⟨hk0, ho⟩
            · refine step_append_grows rfl (.tmp 44) (.tmp 47) 22 rfl 36 i0 _ 14 56 Try.underlying22 hi0 hz0 hz1 hz2 rfl (by decide) (some ⟨b, 0, none⟩) 0 0 [] e2 (fun h => (by cases h)) rfl (Rd.nil _ _) ⟨b5, 0, none⟩ 1 1 (bgS m).cs e5 rfl hA5.rd (by have := seen_one [bgS m]; rwa [rows_one] at this) (by omega) (by unfold maxLen; omega) (by omega) ?_
              intro v' w' hown hgr
              refine hK _ _ (fun hg => hg.grown hgr (by simp)) ?_
              have := own_lower hown (show w2.heap.size ≤ W.heap.size from hG.size)
              have hl : L = [] := List.eq_nil_of_length_eq_zero (by rw [HN.out, hk0])
              show World.ownsRow _ _ _ _ _ _ _
              rw [hrows, hl, hk0]
              exact this
            · refine step_append_rd rfl (.tmp 44) (.tmp 47) 22 rfl w2.heap.size 36 i0 _ 14 56 Try.underlying22 hi0 hz0 hz1 hz2 rfl (by decide) (u 2) k _ rfl ho (some ⟨b5, 0, none⟩) 1 1 (bgS m).cs e5 hA5.rd rfl (by have := seen_one [bgS m]; rwa [rows_one] at this) (by unfold maxLen; have := H1.out; omega) (by have := H1.out; omega) hG.size ?_
              intro v' w' hown hgr _
              refine hK _ _ (fun hg => hg.grown hgr (fun j hj => (ho.lt j hj).1)) ?_
              show World.ownsRow _ _ _ _ _ _ _
              rw [hrows]
              exact hown
          case s7 =>
            intro u W hG _ _ hd K hK
            obtain ⟨d6, -⟩ := hd
            have hd6 := Lib.hid (d6 rfl (.inl rfl))
            clear d6
            dsimp only at hK ⊢
            go_simp
            exact hK _ _ (show Grows _ _ from Grows.refl _) hd6.out
          case dn =>
            intro u W hG hall
            obtain ⟨-, -, -, -, -, -, -, d7, -⟩ := hall
            have ho := d7 rfl
            clear d7
            obtain ⟨g3, c3, e7, hge3, hlt3⟩ := own_form ho (by omega)
            clear hge3 hlt3
            generalize u 7 = x7 at *
            subst e7
            have HO := Lib.hid ho
            have HGR2 := Lib.hid hG
            clear ho hG
            go_wp2_with fail
            clear hk
            go_loopg [10, 11] q (fun gk v10 v11 wr => ∃ j : Nat, gk + j = q ∧ v11 = .int .i64 (j : Int) ∧ (∀ b ∈ bs.take j, 0 ≤ b ∧ b < 32) ∧ Grows w2 wr ∧ ∃ g3 c3, v10 = .slice (some ⟨g3, 0, none⟩) (k + 1 + 2 * j) c3 ∧ wr.ownsRow w2.heap.size 36 14 (.slice (some ⟨g3, 0, none⟩) (k + 1 + 2 * j) c3) (k + 1 + 2 * j) (rowsOf Sn.cs (moreS L m (bs.take j))))
            case atStart => exact ⟨0, by omega, rfl, (fun b hb => by simp at hb), HGR2.out, g3, c3, rfl, HO.out⟩
            case round =>
              clear HO HGR2
              clear g3 c3
              obtain ⟨j, hj, rfl, hbo, hg, g3, c3, rfl, ho⟩ := hrel
              have HBO := Lib.hid hbo
              have HGJ := Lib.hid hg
              have HOJ := Lib.hid ho
              clear hbo hg ho
              by_cases hlt : j < q
              · have hjl : j < bs.length := by rw [HQ.out]; exact hlt
                obtain ⟨gb, ob, rfl, hgb, hcb⟩ := (HBS.out.grows HGR.out).at (show 0 < (bs.map (Value.int .i64)).length by rw [List.length_map]; omega)
                have HXK : Hid (bs[j]? = some bs[j]) := Lib.hid (List.getElem?_eq_getElem hjl)
                have HCB : Hid (∀ W, Grows w2 W → W.cell? ⟨gb, ob + j, none⟩ = some (.int .i64 bs[j])) := Lib.hid (fun W h => (h.cell _ _ hgb).trans (by have := hcb j (by rw [List.length_map]; exact hjl); simpa using this))
                generalize bs[j] = b at *
                have hlt' : (j : Int) < (q : Int) := by omega
                have hj0 : (0 : Int) ≤ (j : Int) := by omega
                have hwj : IntKind.i64.wrap ((j : Int) + 1) = (j : Int) + 1 := IntWalk.i64_in _ (by have := H2.out; omega)
                have hw1 : IntKind.i64.wrap (1 + (j : Int)) = 1 + (j : Int) := IntWalk.i64_in _ (by have := H2.out; omega)
                have hw8 : IntKind.u8.wrap (1 + (j : Int)) = 1 + (j : Int) := by
                  have := H2.out
                  simp [IntKind.wrap, IntKind.bits, IntKind.signed]
                  omega
                have cb := HCB.out wr HGJ.out
                clear hcb hgb hjl
                by_cases hb0 : b < 0
                · have t0 : decide (b < 0) = true := decide_eq_true hb0
                  clear hb0
                  go_wp2_with fail
                  refine (wakes_any _).mono ?_
                  rintro e w9 ⟨rfl, hg9⟩
                  have HG9 := Lib.hid ((HGR.out.trans HGJ.out).trans hg9)
                  clear hg9
                  go_wp2_with fail
                  go_ret
                  exact ⟨rfl, HG9.out⟩
                · have t0 : decide (b < 0) = false := decide_eq_false hb0
                  by_cases hb1 : 32 ≤ b
                  · have t1 : decide (32 ≤ b) = true := decide_eq_true hb1
                    clear hb0 hb1
                    go_wp2_with fail
                    refine (wakes_any _).mono ?_
                    rintro e w9 ⟨rfl, hg9⟩
                    have HG9 := Lib.hid ((HGR.out.trans HGJ.out).trans hg9)
                    clear hg9
                    go_wp2_with fail
                    go_ret
                    exact ⟨rfl, HG9.out⟩
                  · have t1 : decide (32 ≤ b) = false := decide_eq_false hb1
                    have HBB : Hid (0 ≤ b ∧ b < 32) := Lib.hid (by omega)
                    clear hb0 hb1
                    have HMR : Hid (rowsOf Sn.cs (moreS L m (bs.take (j + 1))) = rowsOf Sn.cs (moreS L m (bs.take j)) ++ ((wrS m b (1 + (j : Int))).cs ++ (rdS m b).cs)) := Lib.hid (by
                      have hl : (bs.take j).length = j := by rw [List.length_take, HQ.out]; omega
                      rw [List.take_add_one, HXK.out]
                      show rowsOf Sn.cs (moreS L m (bs.take j ++ [b])) = _
                      rw [more_snoc, rows_append, rows_append, rows_one, rows_one, List.append_assoc, hl])
                    go_upto_region 15 with (fail)
                    clear cb t0 t1
                    refine Prd.wp_region_pred (by kernel_rfl) (by kernel_rfl) (by kernel_rfl) _ (fun u => by simp only [List.map, Prd.frL, Act.put, List.setIfInBounds_toArray, List.set_cons_zero, List.set_cons_succ, Nat.zero_add, Nat.reduceAdd]; exact rfl)
                      (Prd.pv #[.slice (some ⟨g3, 0, none⟩) (k + 1 + 2 * j) c3, .agg #[.int .i64 m.s, .int .i64 m.i, .int .i64 m.t], .slice (some ⟨gb, ob, none⟩) q cap2, .int .i64 (j : Int), .pointer (some ⟨gb, ob + j, none⟩), .int .i64 b, .int .i64 (j : Int), .int .i64 (1 + (j : Int)), .int .u8 (1 + (j : Int)), .agg #[.int .u8 (1 + (j : Int)), .int .u8 0, .int .u8 0, .int .u8 0, .int .u8 0, .int .u8 0, .int .u8 0, .int .u8 0], .agg #[.int .i8 2, .int .i64 m.s, .int .i64 m.i, .int .i64 m.t, .int .i64 b, .int .u8 (1 + (j : Int)), .int .u8 0, .int .u8 0, .int .u8 0, .int .u8 0, .int .u8 0, .int .u8 0, .int .u8 0, .int .i64 0], .agg #[.int .i64 m.s, .int .i64 m.i, .int .i64 m.t], .slice (some ⟨gb, ob, none⟩) q cap2, .int .i64 (j : Int), .pointer (some ⟨gb, ob + j, none⟩), .int .i64 b, .agg #[.int .i8 1, .int .i64 m.s, .int .i64 m.i, .int .i64 m.t, .int .i64 b, .int .u8 0, .int .u8 0, .int .u8 0, .int .u8 0, .int .u8 0, .int .u8 0, .int .u8 0, .int .u8 0, .int .i64 0], undef, undef, undef]
                        [(17, fun v W => ∃ z, v = .slice (some ⟨z, 0, none⟩) 2 2 ∧ At W z 36 ((wrS m b (1 + (j : Int))).cs ++ (rdS m b).cs).toArray),
                         (18, fun v W => W.ownsRow w2.heap.size 36 14 v (k + 1 + 2 * j + 2) (rowsOf Sn.cs (moreS L m (bs.take (j + 1))))),
                         (19, fun v W => W.ownsRow w2.heap.size 36 14 v (k + 1 + 2 * j + 2) (rowsOf Sn.cs (moreS L m (bs.take (j + 1)))))])
                      (fun i => if i = 17 then some 18 else none) (fun W => Grows w2 W) (fun W => W.ownsRow w2.heap.size 36 14 (.slice (some ⟨g3, 0, none⟩) (k + 1 + 2 * j) c3) (k + 1 + 2 * j) (rowsOf Sn.cs (moreS L m (bs.take j)))) (some 18) (fun i W W' => if i = 18 then (Grows w2 W → Grows w2 W') else Grows W W')
                      ?r0 ?r1 ?r2 ?r3 (Prd.pv_keep _ ⟨?n17, ?n18, ?n19, trivial⟩) ⟨?t0, ?t1, ?t2, ?t3, ?t4, ?t5, ?t6, ?t7, ?t8, ?t9, ?t10, ?t11, ?t12, ?t13, ?t14, ?t15, ?t16, ?t17, ?t18, ?t19, trivial⟩ ?rd
                    case r0 => exact HGJ.out.drew
                    case r1 => exact own_grows HOJ.out (Grows.refl _).drew
                    case r2 =>
                      intro i W W' h1 h4 h
                      rw [if_neg (by rintro rfl; exact h1 rfl)] at h4
                      exact own_grows h h4
                    case r3 =>
                      intro i W W' h hg
                      split at h
                      · exact h hg
                      · exact hg.trans h
                    case n17 =>
                      rintro i v W W' h1 h2 h3 h4 ⟨z, rfl, hp⟩
                      rw [if_neg (by rintro rfl; exact h2 rfl)] at h4
                      exact ⟨z, rfl, hp.grows h4⟩
                    case n18 =>
                      intro i v W W' h1 h2 h3 h4 hp
                      rw [if_neg h1] at h4
                      exact own_grows hp h4
                    case n19 =>
                      intro i v W W' h1 h2 h3 h4 hp
                      rw [if_neg (by rintro rfl; exact Bool.noConfusion (h3.symm.trans (show _ = false by kernel_rfl)))] at h4
                      exact own_grows hp h4
                    case t0 =>
                      intro u W hG _ hz hd K hK
                      have e19 : u 19 = .slice (some ⟨g3, 0, none⟩) (k + 1 + 2 * j) c3 := hz 19 (by kernel_rfl)
                      clear hd hz
                      dsimp only at hK ⊢
                      generalize u 19 = x19 at e19 hK ⊢
                      subst e19
                      go_simp
                      exact hK _ _ (show Grows _ _ from Grows.refl _) rfl
                    case t1 =>
                      intro u W hG _ _ hd K hK
                      clear hd
                      have cm := (HCM.out W hG).cell
                      dsimp only at hK ⊢
                      go_simp
                      exact hK _ _ (show Grows _ _ from Grows.refl _) rfl
                    case t2 =>
                      intro u W hG _ _ hd K hK
                      clear hd
                      dsimp only at hK ⊢
                      go_simp
                      exact hK _ _ (show Grows _ _ from Grows.refl _) rfl
                    case t3 =>
                      intro u W hG _ _ hd K hK
                      clear hd
                      dsimp only at hK ⊢
                      go_simp
                      exact hK _ _ (show Grows _ _ from Grows.refl _) rfl
                    case t4 =>
                      intro u W hG _ _ hd K hK
                      obtain ⟨d2, d3, -⟩ := hd
                      have e2 : u 2 = .slice (some ⟨gb, ob, none⟩) q cap2 := d2 rfl (.inl rfl)
                      have e3 : u 3 = .int .i64 (j : Int) := d3 rfl (.inl rfl)
                      clear d2 d3
                      dsimp only at hK ⊢
                      generalize u 2 = x2 at e2 hK ⊢
                      subst e2
                      generalize u 3 = x3 at e3 hK ⊢
                      subst e3
                      go_simp
                      exact hK _ _ (show Grows _ _ from Grows.refl _) rfl
                    case t5 =>
                      intro u W hG _ _ hd K hK
                      obtain ⟨d4, -⟩ := hd
                      have e4 : u 4 = .pointer (some ⟨gb, ob + j, none⟩) := d4 rfl (.inl rfl)
                      clear d4
                      have cb := HCB.out W hG
                      dsimp only at hK ⊢
                      generalize u 4 = x4 at e4 hK ⊢
                      subst e4
                      go_simp
                      exact hK _ _ (show Grows _ _ from Grows.refl _) rfl
                    case t6 =>
                      intro u W hG _ _ hd K hK
                      clear hd
                      dsimp only at hK ⊢
                      go_simp
                      exact hK _ _ (show Grows _ _ from Grows.refl _) rfl
                    case t7 =>
                      intro u W hG _ _ hd K hK
                      obtain ⟨d6, -⟩ := hd
                      have e6 : u 6 = .int .i64 (j : Int) := d6 rfl (.inl rfl)
                      clear d6
                      dsimp only at hK ⊢
                      generalize u 6 = x6 at e6 hK ⊢
                      subst e6
                      go_simp
                      exact hK _ _ (show Grows _ _ from Grows.refl _) rfl
                    case t8 =>
                      intro u W hG _ _ hd K hK
                      obtain ⟨d7, -⟩ := hd
                      have e7 : u 7 = .int .i64 (1 + (j : Int)) := d7 rfl (.inl rfl)
                      clear d7
                      dsimp only at hK ⊢
                      generalize u 7 = x7 at e7 hK ⊢
                      subst e7
                      go_simp
                      exact hK _ _ (show Grows _ _ from Grows.refl _) rfl
                    case t9 =>
                      intro u W hG _ _ hd K hK
                      obtain ⟨d8, -⟩ := hd
                      have e8 : u 8 = .int .u8 (1 + (j : Int)) := d8 rfl (.inl rfl)
                      clear d8
                      dsimp only at hK ⊢
                      generalize u 8 = x8 at e8 hK ⊢
                      subst e8
                      go_simp
                      exact hK _ _ (show Grows _ _ from Grows.refl _) rfl
                    case t10 =>
                      intro u W hG _ _ hd K hK
                      obtain ⟨d1, d5, d9, -⟩ := hd
                      have e1 : u 1 = .agg #[.int .i64 m.s, .int .i64 m.i, .int .i64 m.t] := d1 rfl (.inl rfl)
                      have e5 : u 5 = .int .i64 b := d5 rfl (.inl rfl)
                      have e9 : u 9 = .agg #[.int .u8 (1 + (j : Int)), .int .u8 0, .int .u8 0, .int .u8 0, .int .u8 0, .int .u8 0, .int .u8 0, .int .u8 0] := d9 rfl (.inl rfl)
                      clear d1 d5 d9
                      dsimp only at hK ⊢
                      generalize u 1 = x1 at e1 hK ⊢
                      subst e1
                      generalize u 5 = x5 at e5 hK ⊢
                      subst e5
                      generalize u 9 = x9 at e9 hK ⊢
                      subst e9
                      go_simp
                      exact hK _ _ (show Grows _ _ from Grows.refl _) rfl
                    case t11 =>
                      intro u W hG _ _ hd K hK
                      clear hd
                      have cm := (HCM.out W hG).cell
                      dsimp only at hK ⊢
                      go_simp
                      exact hK _ _ (show Grows _ _ from Grows.refl _) rfl
                    case t12 =>
                      intro u W hG _ _ hd K hK
                      clear hd
                      dsimp only at hK ⊢
                      go_simp
                      exact hK _ _ (show Grows _ _ from Grows.refl _) rfl
                    case t13 =>
                      intro u W hG _ _ hd K hK
                      clear hd
                      dsimp only at hK ⊢
                      go_simp
                      exact hK _ _ (show Grows _ _ from Grows.refl _) rfl
                    case t14 =>
                      intro u W hG _ _ hd K hK
                      obtain ⟨d12, d13, -⟩ := hd
                      have e12 : u 12 = .slice (some ⟨gb, ob, none⟩) q cap2 := d12 rfl (.inl rfl)
                      have e13 : u 13 = .int .i64 (j : Int) := d13 rfl (.inl rfl)
                      clear d12 d13
                      dsimp only at hK ⊢
                      generalize u 12 = x12 at e12 hK ⊢
                      subst e12
                      generalize u 13 = x13 at e13 hK ⊢
                      subst e13
                      go_simp
                      exact hK _ _ (show Grows _ _ from Grows.refl _) rfl
                    case t15 =>
                      intro u W hG _ _ hd K hK
                      obtain ⟨d14, -⟩ := hd
                      have e14 : u 14 = .pointer (some ⟨gb, ob + j, none⟩) := d14 rfl (.inl rfl)
                      clear d14
                      have cb := HCB.out W hG
                      dsimp only at hK ⊢
                      generalize u 14 = x14 at e14 hK ⊢
                      subst e14
                      go_simp
                      exact hK _ _ (show Grows _ _ from Grows.refl _) rfl
                    case t16 =>
                      intro u W hG _ _ hd K hK
                      obtain ⟨d11, d15, -⟩ := hd
                      have e11 : u 11 = .agg #[.int .i64 m.s, .int .i64 m.i, .int .i64 m.t] := d11 rfl (.inl rfl)
                      have e15 : u 15 = .int .i64 b := d15 rfl (.inl rfl)
                      clear d11 d15
                      dsimp only at hK ⊢
                      generalize u 11 = x11 at e11 hK ⊢
                      subst e11
                      generalize u 15 = x15 at e15 hK ⊢
                      subst e15
                      go_simp
                      exact hK _ _ (show Grows _ _ from Grows.refl _) rfl
                    case t17 =>
                      intro u W hG _ _ hd K hK
                      obtain ⟨d10, d16, -⟩ := hd
                      have e10 : u 10 = .agg #[.int .i8 2, .int .i64 m.s, .int .i64 m.i, .int .i64 m.t, .int .i64 b, .int .u8 (1 + (j : Int)), .int .u8 0, .int .u8 0, .int .u8 0, .int .u8 0, .int .u8 0, .int .u8 0, .int .u8 0, .int .i64 0] := d10 rfl (.inl rfl)
                      have e16 : u 16 = .agg #[.int .i8 1, .int .i64 m.s, .int .i64 m.i, .int .i64 m.t, .int .i64 b, .int .u8 0, .int .u8 0, .int .u8 0, .int .u8 0, .int .u8 0, .int .u8 0, .int .u8 0, .int .u8 0, .int .i64 0] := d16 rfl (.inl rfl)
                      clear d10 d16
                      dsimp only at hK ⊢
                      generalize u 10 = x10 at e10 hK ⊢
                      subst e10
                      generalize u 16 = x16 at e16 hK ⊢
                      subst e16
                      go_simp
                      exact hK _ _ (show Grows _ _ from (Grows.refl _).alloc _) ⟨W.heap.size, rfl, At.new _ _ _⟩
                    case t18 =>
                      intro u W hG hgo _ hd K hK
                      have ho := hgo (.inr rfl)
                      obtain ⟨d0, d17, -⟩ := hd
                      have e0 : u 0 = .slice (some ⟨g3, 0, none⟩) (k + 1 + 2 * j) c3 := d0 rfl (.inl rfl)
                      obtain ⟨z, e17, hA⟩ := d17 rfl (.inr rfl)
                      refine step_append_rd rfl (.tmp 68) (.tmp 85) 22 rfl w2.heap.size 36 i0 _ 14 56 Try.underlying22 hi0 hz0 hz1 hz2 rfl (by decide) _ (k + 1 + 2 * j) _ e0 ho (some ⟨z, 0, none⟩) 2 2 ((wrS m b (1 + (j : Int))).cs ++ (rdS m b).cs) e17 hA.rd rfl (by have := seen_one [wrS m b (1 + (j : Int)), rdS m b]; rwa [rows_cons, rows_one] at this) (by unfold maxLen; have := H1.out; have := H2.out; omega) (by have := H1.out; have := H2.out; omega) hG.size ?_
                      intro v' w' hown hgr _
                      refine hK _ _ (fun hg => hg.grown hgr (fun i hi => (ho.lt i hi).1)) ?_
                      show World.ownsRow _ _ _ _ _ _ _
                      rw [HMR.out]
                      exact hown
                    case t19 =>
                      intro u W hG _ _ hd K hK
                      obtain ⟨d18, -⟩ := hd
                      have hd18 := Lib.hid (d18 rfl (.inl rfl))
                      clear d18
                      dsimp only at hK ⊢
                      go_simp
                      exact hK _ _ (show Grows _ _ from Grows.refl _) hd18.out
                    case rd =>
                      intro u W hG hall
                      obtain ⟨-, -, -, -, -, -, -, -, -, -, -, -, -, -, -, -, -, -, -, d19, -⟩ := hall
                      have ho := d19 rfl
                      clear d19
                      obtain ⟨g4, c4, e19, hge4, _⟩ := own_form ho (by omega)
                      generalize u 19 = x19 at *
                      subst e19
                      have HOK4 := Lib.hid ho
                      have HGW4 := Lib.hid hG
                      clear ho hG
                      go_wp2_with fail
                      go_roundg (gk - 1)
                      case measure => omega
                      refine ⟨j + 1, by omega, rfl, fun y hy => ?_, HGW4.out, g4, c4, rfl, HOK4.out⟩
                      rw [List.take_add_one, HXK.out] at hy
                      rcases List.mem_append.1 hy with hy | hy
                      · exact HBO.out y hy
                      · simp at hy; rw [hy]; exact HBB.out
              · have : j = q := by omega
                subst this
                have HALL : Hid (∀ b ∈ bs, 0 ≤ b ∧ b < 32) := Lib.hid (by have := HBO.out; rwa [← HQ.out, List.take_length] at this)
                have HOE : Hid (wr.ownsRow w2.heap.size 36 14 (.slice (some ⟨g3, 0, none⟩) (k + 1 + 2 * j) c3) (k + 1 + 2 * j) (rowsOf Sn.cs (moreS L m bs))) := Lib.hid (by have := HOJ.out; rwa [← HQ.out, List.take_length, HQ.out] at this)
                have cm := (HCM.out wr HGJ.out).cell
                have HRD := Lib.hid (rd_new wr (cmS m).cs.toArray 36 (0, 0))
                have HO5 := Lib.hid (own_grows HOE.out ((Grows.refl wr).alloc (.cells (cmS m).cs.toArray 36)))
                clear hlt HBO HOJ
                go_wp2_with (at_builtin; (refine wpList_append_rd _ rfl (.tmp 87) (.tmp 90) 22 rfl w2.heap.size 36 i0 (.agg Sn.zero.cs.toArray) 14 56 Try.underlying22 hi0 hz0 hz1 hz2 rfl (by decide) (.slice (some ⟨g3, 0, none⟩) (k + 1 + 2 * j) c3) (k + 1 + 2 * j) (rowsOf Sn.cs (moreS L m bs)) rfl HO5.out (some ⟨wr.heap.size, 0, none⟩) 1 1 (cmS m).cs rfl HRD.out rfl (by have := seen_one [cmS m]; rwa [rows_one] at this) (by unfold maxLen; have := H1.out; have := H2.out; omega) (by have := H1.out; have := H2.out; omega) (by have := HGJ.out.size; simp; omega) ?app))
                case app =>
                  intro v4 w4 hown4 hgr4 _
                  have HG4 : Hid (Grows w2 w4) := Lib.hid ((HGJ.out.alloc _).grown hgr4 (fun i hi => (HO5.out.lt i hi).1))
                  obtain ⟨g4, c4, rfl, _, _⟩ := own_form hown4 (by omega)
                  have HRW : Hid (Rd w4 (some ⟨g4, 0, none⟩) (rowsOf Sn.cs (fullS L m bs))) := Lib.hid (by
                    have := Rd.own hown4
                    unfold fullS
                    rwa [rows_append, rows_one])
                  clear hown4 hgr4 cm
                  go_wp2_with fail
                  refine (wrong_told (fullS L m bs) (k + 1 + 2 * j + 1) (by rw [full_len, HN.out, HQ.out]; omega) (by have := H1.out; have := H2.out; omega) (full_ok HOK.out HMO.out (by rw [HQ.out]; exact H2.out) HALL.out) _ c4 _ HRW.out).mono ?_
                  rintro e w5 ⟨hg5, av2, cv2, fs2, ec2, rfl, hrf2, ht2⟩
                  have HG5 := Lib.hid ((HGR.out.trans HG4.out).trans hg5)
                  have cm := ((HM2.out.grows HG4.out).grows hg5).cell
                  have HRF5 := Lib.hid ((HRF2.out.grows HG4.out).grows hg5)
                  have HR2 := Lib.hid hrf2
                  have HT2 := Lib.hid ht2
                  have HMF := Lib.hid (may_full HOUT.out HALL.out)
                  have HNM := Lib.hid (fun W => named32_any m W)
                  unfold Nm.v at HNM
                  clear hg5 hrf2 ht2
                  cases hnb : namedB m with
                  | false =>
                    rw [hnb] at HNM HMF
                    rcases HT2.out.is with ⟨h1, _⟩ | ⟨_, rfl, rfl⟩
                    · exfalso
                      rw [HMF.out, Bool.and_false] at h1
                      cases h1
                    · clear hnb
                      go_wp2_with fail
                      refine (HNM.out _).mono ?_
                      rintro e w6 ⟨rfl, hg6⟩
                      have HG6 := Lib.hid (HG5.out.trans hg6)
                      clear hg6
                      go_wp2_with fail
                      refine (wakes_any _).mono ?_
                      rintro e w9 ⟨rfl, hg9⟩
                      have HG9 := Lib.hid (HG6.out.trans hg9)
                      clear hg9
                      go_wp2_with fail
                      go_ret
                      exact ⟨rfl, HG9.out⟩
                  | true =>
                    have hfs : fs2 = fs ∧ ec2 = ec := by
                      have hmf := HMF.out
                      rw [hnb, Bool.and_true] at hmf
                      rcases HT2.out.is with ⟨h1, h2, h3⟩ | ⟨h1, h2, h3⟩ <;> rcases HT.out.is with ⟨h4, h5, h6⟩ | ⟨h4, h5, h6⟩
                      · exact ⟨by rw [h2, h5, wrong_full HOUT.out bs], by rw [h3, h6]⟩
                      · exfalso
                        rw [hmf, h4] at h1
                        cases h1
                      · exfalso
                        rw [hmf, h4] at h1
                        cases h1
                      · exact ⟨by rw [h2, h5], by rw [h3, h6]⟩
                    obtain ⟨rfl, rfl⟩ := hfs
                    rw [hnb] at HNM
                    clear hnb
                    go_wp2_with fail
                    refine (HNM.out _).mono ?_
                    rintro e w6 ⟨rfl, hg6⟩
                    have HG6 := Lib.hid (HG5.out.trans hg6)
                    have HR6 := Lib.hid (HRF5.out.grows hg6)
                    have HR7 := Lib.hid (HR2.out.grows hg6)
                    clear hg6
                    go_wp2_with fail
                    refine (same32_any fs2 HT2.out.ok _ rfl HT2.out.len _ _ _ _ _ HR6.out HR7.out).mono ?_
                    rintro e w7 ⟨rfl, hg7⟩
                    have HG7 := Lib.hid (HG6.out.trans hg7)
                    clear hg7
                    go_wp2_with fail
                    refine (wakes_any _).mono ?_
                    rintro e w9 ⟨rfl, hg9⟩
                    have HG9 := Lib.hid (HG7.out.trans hg9)
                    clear hg9
                    go_wp2_with fail
                    go_ret
                    exact ⟨rfl, HG9.out⟩
    · have h2i : decide ((q : Int) > 20) = true := decide_eq_true (by omega)
      clear h1 h2
      go_enter Try.func4, Try.ntmps4
      go_wp2_with fail
      refine (wakes_any _).mono ?_
      rintro e w9 ⟨rfl, hg9⟩
      have HG9 := Lib.hid (HG0.out.trans hg9)
      clear hg9
      go_wp2_with fail
      go_ret
      exact ⟨rfl, HG9.out⟩
  · have h1i : decide ((n : Int) > 250) = true := decide_eq_true (by omega)
    clear h1
    go_enter Try.func4, Try.ntmps4
    go_wp2_with fail
    refine (wakes_any _).mono ?_
    rintro e w9 ⟨rfl, hg9⟩
    have HG9 := Lib.hid (HG0.out.trans hg9)
    clear hg9
    go_wp2_with fail
    go_ret
    exact ⟨rfl, HG9.out⟩
end Go.Proofs.Ytfigoeoimefngaa
