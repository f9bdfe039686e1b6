/-
  The reference's Mend.
-/
import Derived.Test.YtfigoeoimefngaaWqE
import Derived.Test.YtfigoeoimefngaaWnB
namespace Go.Proofs.Ytfigoeoimefngaa
open Go.RowKit Go.Maps Go.Shelf

theorem own_none {w : World} {g : Nat} {e : TypeId} {size : Nat} (h : At w g e #[]) {B : Nat} (hB : B ≤ g) : w.ownsRow B e size (.slice (some ⟨g, 0, none⟩) 0 0) 0 [] :=
  ⟨by simp, .inr ⟨g, 0, #[], rfl, hB, h, Nat.le_refl _, Nat.zero_le _, by simp, by simp⟩⟩
set_option maxRecDepth 100000 in
set_option maxHeartbeats 8000000 in
theorem refmend_any (L : List Sn) (n : Nat) (hn : L.length = n) (hL : n ≤ 1048576) (hok : ∀ x ∈ L, x.n.ok ∧ x.wk.ok) (a : Option Addr) (cap : Nat) (w : World) (hr : Rd w a (rowsOf Sn.cs L)) :
    Calls Try.prog 17 #[.slice a n cap] w (MendP L w) := by
  have HRT := Lib.hid (refwrong_told L n hn hL hok a cap w hr)
  have HN := Lib.hid hn
  have HNL := Lib.hid hL
  have HR := Lib.hid hr
  clear hr hn hL hok
  go_enter Try.func17, Try.ntmps17
  go_wp2_with fail
  refine HRT.out.mono ?_
  clear HRT
  rintro e w2 ⟨hg2, av, cv, fs, ec, rfl, hrd, hok, hlen, hcase⟩
  have HG2 := Lib.hid hg2
  rcases hcase with ⟨hm, rfl, rfl⟩ | ⟨hm, rfl, rfl⟩
  · have HM := Lib.hid hm
    obtain ⟨fs, hfs⟩ : ∃ fs, wrongF L = fs := ⟨_, rfl⟩
    have HFS := Lib.hid hfs
    rw [hfs] at hrd hok hlen ⊢
    have HRD := Lib.hid hrd
    have HOK := Lib.hid hok
    have HLN := Lib.hid hlen
    clear hg2 hm hrd hok hlen hfs
    obtain ⟨B, hB⟩ : ∃ B, w2.heap.size = B := ⟨_, rfl⟩
    obtain ⟨w3, hw3⟩ : ∃ w3, w2.alloc (.cells #[] 36) = w3 := ⟨_, rfl⟩
    have hg3 : Grows w2 w3 := by rw [← hw3]; exact (Grows.refl _).alloc _
    have HG3 := Lib.hid hg3
    have HOW : Hid (w3.ownsRow B 36 14 (.slice (some ⟨B, 0, none⟩) 0 0) 0 []) := Lib.hid (own_none (by rw [← hw3, ← hB]; exact At.new _ _ _) (Nat.le_refl _))
    have HRA := Lib.hid (((HR.out.grows HG2.out).grows hg3))
    have HWB : Hid (w.heap.size ≤ B) := Lib.hid (by rw [← hB]; exact HG2.out.size)
    have HBB := Lib.hid hB
    obtain ⟨i0, hi0, hz0, hz1, hz2⟩ := info_parts info_sn
    clear hg3
    go_wp2_with (at_builtin; (refine wpList_append_rd _ rfl (.tmp 16) (.tmp 17) 22 rfl B 36 i0 (.agg Sn.zero.cs.toArray) 14 56 Try.underlying22 hi0 hz0 hz1 hz2 rfl (by decide) (.slice (some ⟨B, 0, none⟩) 0 0) 0 [] rfl HOW.out a n cap (rowsOf Sn.cs L) rfl HRA.out ?q1 ?q2 ?q3 ?q4 ?q5 ?app))
    case q1 => rw [rows_length Sn.cs_len, HN.out]
    case q2 => exact seen_one L
    case q3 => unfold maxLen; have := HNL.out; omega
    case q4 => have := HNL.out; omega
    case q5 => have := HG3.out.size; omega
    case app =>
      intro v3 w4 hown hgr _
      have HG4 : Hid (Grows w2 w4) := Lib.hid (HG3.out.grown hgr (fun i hi => by injection hi with hi; rw [hB, ← hi]; exact Nat.le_refl _))
      have hown' : w4.ownsRow B 36 14 v3 n (rowsOf Sn.cs L) := by simpa using hown
      obtain ⟨av3, cv3, rfl, _, _, _⟩ := own_slice hown'
      have HOB : Hid (∀ i, (Value.slice av3 n cv3).ownBlock = some i → B ≤ i) := Lib.hid (fun i hi => (own_typed hown' hi).choose_spec.2.1)
      have HO4 := Lib.hid hown'
      clear hown hown' hgr hw3 hB
      go_wp2_with fail
      go_loopg [7] fs.length (fun gk v7 wr => ∃ k : Nat, gk + k = fs.length ∧ v7 = .int .i64 (k : Int) ∧ Turns (fun i => (Value.slice av3 n cv3).ownBlock = some i) w4 wr (fun _ => False) ∧ wr.ownsRow B 36 14 (.slice av3 n cv3) n (rowsOf Sn.cs (mendK L (fs.take k))))
      case atStart => exact ⟨0, by omega, rfl, (Turns.refl _ w4).weak, HO4.out⟩
      case round =>
        obtain ⟨k, hk, rfl, hT, ho⟩ := hrel
        have HT := Lib.hid hT
        have HOK9 := Lib.hid ho
        clear hT ho
        by_cases hlt : k < fs.length
        · have hfk : fs[k]? = some fs[k] := List.getElem?_eq_getElem hlt
          have hfm := List.mem_of_getElem? hfk
          have HFO := Lib.hid (HOK.out _ hfm)
          have hfn : (fs[k]).at_ < n := by
            have hfw : fs[k] ∈ wrongF L := by rw [HFS.out]; exact hfm
            unfold wrongF at hfw
            obtain ⟨f0, h0, h1⟩ := List.mem_map.1 hfw
            obtain ⟨x, hx, _⟩ := read_at (List.mem_filter.1 h0).1
            have h2 : (fs[k]).at_ = f0.at_ := by rw [← h1]; rfl
            rw [h2, ← HN.out]
            exact (List.getElem?_eq_some_iff.1 hx).1
          obtain ⟨g, off, rfl, hgw, _⟩ := ld_fault HRD.out HOK.out hfk
          obtain ⟨g3, cv4, e3, hg3, _⟩ := own_form HO4.out (by omega)
          injection e3 with e3 _ e4
          subst e3 e4
          have hgB : g < B := by rw [← HBB.out]; exact hgw
          have hng : ∀ W, Turns (fun i => (Value.slice (some ⟨g3, 0, none⟩) n cv3).ownBlock = some i) w4 W (fun _ => False) → Rd W (some ⟨g, off, none⟩) (rowsOf Ft.cs fs) := fun W h => h.rd (HRD.out.grows HG4.out) (fun b o e ho => by
            injection e with e
            injection e with e
            have := HOB.out b ho
            omega)
          generalize fs[k] = f at *
          have LA : Hid (∀ W, Turns (fun i => (Value.slice (some ⟨g3, 0, none⟩) n cv3).ownBlock = some i) w4 W (fun _ => False) → (loadVar 3 ⟨g, off + k * 28, none⟩).run Try.prog W = .ok (.int .i64 (f.at_ : Int)) W) := Lib.hid (fun W h => by
            obtain ⟨g', off', e1, _, hA⟩ := ld_fault (hng W h) HOK.out hfk
            injection e1 with e1
            injection e1 with e1 e2
            subst e1 e2
            exact ld_int Try.underlying3 (hA 0 _ rfl) W (Grows.refl _))
          have LW : Hid (∀ W, Turns (fun i => (Value.slice (some ⟨g3, 0, none⟩) n cv3).ownBlock = some i) w4 W (fun _ => False) → (loadVar 31 ⟨g, off + k * 28 + 5, none⟩).run Try.prog W = .ok (.agg (ivs f.want).toArray) W) := Lib.hid (fun W h => by
            obtain ⟨g', off', e1, hw, hA⟩ := ld_fault (hng W h) HOK.out hfk
            injection e1 with e1
            injection e1 with e1 e2
            subst e1 e2
            exact ld_range (range_want HFO.out hA) hw Try.underlying31 rfl (by rw [ivs_len, HFO.out.want]; exact info_val8) W (Grows.refl _))
          have hln : (mendK L (fs.take k)).length = n := by rw [mendK_len, HN.out]
          have hrl : f.at_ * 14 + 5 + (ivs f.want).length ≤ (rowsOf Sn.cs (mendK L (fs.take k))).length := by rw [rows_length Sn.cs_len, hln, ivs_len, HFO.out.want]; omega
          have HIV : Hid ((Try.prog.info? 31).map (·.size) = some (ivs f.want).toArray.size) := Lib.hid (by rw [List.size_toArray, ivs_len, HFO.out.want]; exact info_val8)
          have HTH : Hid (∀ W : World, W.ownsRow B 36 14 (.slice (some ⟨g3, 0, none⟩) n cv3) n (rowsOf Sn.cs (mendK L (fs.take k))) → W.there g3 (f.at_ * 14 + 5) (ivs f.want).toArray.size) := Lib.hid (fun W h => by
            rcases h.2 with h2 | ⟨g', cap', cur, q1, q2, q3, q4, q5, q6, q7⟩
            · cases h2.1
            · injection q1 with q1 _ _
              injection q1 with q1
              injection q1 with q1
              subst q1
              have hA : At W g3 36 cur := q3
              refine hA.there _ _ ?_
              rw [q6, List.size_toArray, ivs_len, HFO.out.want]
              omega)
          have HNX : Hid (∀ W : World, W.ownsRow B 36 14 (.slice (some ⟨g3, 0, none⟩) n cv3) n (rowsOf Sn.cs (mendK L (fs.take k))) → (W.setCells g3 (f.at_ * 14 + 5) (ivs f.want).toArray.toList).ownsRow B 36 14 (.slice (some ⟨g3, 0, none⟩) n cv3) n (rowsOf Sn.cs (mendK L (fs.take (k + 1))))) := Lib.hid (fun W h => by
            rw [List.take_add_one, hfk]
            show World.ownsRow _ _ _ _ _ _ (rowsOf Sn.cs (mendK L (fs.take k ++ [f])))
            rw [mendK_snoc, rows_put HFO.out.want _ _ (by rw [hln]; exact hfn)]
            exact own_sets h _ _ hrl)
          have hlt' : (k : Int) < (fs.length : Int) := by omega
          have hk0 : (0 : Int) ≤ (k : Int) := by omega
          have hwr : IntKind.i64.wrap ((k : Int) + 1) = (k : Int) + 1 := IntWalk.i64_in _ (by have := HLN.out; omega)
          have hat : (f.at_ : Int) < (n : Int) := by omega
          have hat0 : (0 : Int) ≤ (f.at_ : Int) := by omega
          clear hfk hfm hng hln hrl hg3 hgw hgB
          go_upto_region 8 with (fail)
          refine Prd.wp_region_pred (by kernel_rfl) (by kernel_rfl) (by kernel_rfl) _ (fun u => by simp only [List.map, Prd.frL, Act.put, List.setIfInBounds_toArray, List.set_cons_zero, List.set_cons_succ, Nat.zero_add, Nat.reduceAdd]; exact rfl)
            (Prd.pv #[.slice (some ⟨g3, 0, none⟩) n cv3, .slice (some ⟨g, off, none⟩) fs.length cv, .int .i64 (k : Int), .pointer (some ⟨g, off + k * 28, none⟩), .pointer (some ⟨g, off + k * 28, none⟩), .int .i64 (f.at_ : Int), .slice (some ⟨g, off, none⟩) fs.length cv, .int .i64 (k : Int), .pointer (some ⟨g, off + k * 28, none⟩), .pointer (some ⟨g, off + k * 28 + 5, none⟩), .agg (ivs f.want).toArray, .pointer (some ⟨g3, f.at_ * 14, none⟩), .pointer (some ⟨g3, f.at_ * 14 + 5, none⟩), undef]
              [(13, fun _ W => W.ownsRow B 36 14 (.slice (some ⟨g3, 0, none⟩) n cv3) n (rowsOf Sn.cs (mendK L (fs.take (k + 1)))))])
            (fun _ => none) (fun W => Turns (fun i => (Value.slice (some ⟨g3, 0, none⟩) n cv3).ownBlock = some i) w4 W (fun _ => False)) (fun W => W.ownsRow B 36 14 (.slice (some ⟨g3, 0, none⟩) n cv3) n (rowsOf Sn.cs (mendK L (fs.take k)))) (some 13)
            (fun i W W' => if i = 13 then W' = W.setCells g3 (f.at_ * 14 + 5) (ivs f.want).toArray.toList else W' = W)
            ?g0 ?gg ?gk ?gr (Prd.pv_keep _ ⟨?m13, trivial⟩) ⟨?s0, ?s1, ?s2, ?s3, ?s4, ?s5, ?s6, ?s7, ?s8, ?s9, ?s10, ?s11, ?s12, ?s13, trivial⟩ ?dn
          case g0 => exact HT.out.grows ((Grows.refl _).drew)
          case gg => exact own_grows HOK9.out ((Grows.refl _).drew)
          case gk =>
            intro i W1 W2 hne h h2
            rw [if_neg (fun e => hne (by rw [e]))] at h
            subst h
            exact h2
          case gr =>
            intro i W1 W2 h h2
            split at h
            · subst h
              exact Turns.sets (O := fun i => (Value.slice (some ⟨g3, 0, none⟩) n cv3).ownBlock = some i) (g := g3) (.inl rfl) _ _ h2
            · subst h
              exact h2
          case m13 =>
            intro i v W1 W2 h1 h2 h3 h4 hp
            rw [if_neg h1] at h4
            rw [h4]
            exact hp
          case s0 =>
            intro u W hG _ _ hd K hK
            clear hd
            clear hG
            dsimp only at hK ⊢
            go_simp
            exact hK (.slice (some ⟨g3, 0, none⟩) n cv3) _ rfl rfl
          case s1 =>
            intro u W hG _ _ hd K hK
            clear hd
            clear hG
            dsimp only at hK ⊢
            go_simp
            exact hK (.slice (some ⟨g, off, none⟩) fs.length cv) _ rfl rfl
          case s2 =>
            intro u W hG _ _ hd K hK
            clear hd
            clear hG
            dsimp only at hK ⊢
            go_simp
            exact hK (.int .i64 (k : Int)) _ rfl rfl
          case s3 =>
            intro u W hG _ _ hd K hK
            obtain ⟨d1, d2, -⟩ := hd
            have e1 : u 1 = .slice (some ⟨g, off, none⟩) fs.length cv := d1 rfl (.inl rfl)
            have e2 : u 2 = .int .i64 (k : Int) := d2 rfl (.inl rfl)
            clear d1 d2
            clear hG
            dsimp only at hK ⊢
            generalize u 1 = z1 at e1 hK ⊢
            subst e1
            generalize u 2 = z2 at e2 hK ⊢
            subst e2
            go_simp
            exact hK (.pointer (some ⟨g, off + k * 28, none⟩)) _ rfl rfl
          case s4 =>
            intro u W hG _ _ hd K hK
            obtain ⟨d3, -⟩ := hd
            have e3 : u 3 = .pointer (some ⟨g, off + k * 28, none⟩) := d3 rfl (.inl rfl)
            clear d3
            clear hG
            dsimp only at hK ⊢
            generalize u 3 = z3 at e3 hK ⊢
            subst e3
            go_simp
            exact hK (.pointer (some ⟨g, off + k * 28, none⟩)) _ rfl rfl
          case s5 =>
            intro u W hG _ _ hd K hK
            obtain ⟨d4, -⟩ := hd
            have e4 : u 4 = .pointer (some ⟨g, off + k * 28, none⟩) := d4 rfl (.inl rfl)
            clear d4
            exact step_load rfl 3 (.tmp 29) rfl g (off + k * 28) (.int .i64 (f.at_ : Int)) e4 (LA.out W hG) (hK _ _ rfl rfl)
          case s6 =>
            intro u W hG _ _ hd K hK
            clear hd
            clear hG
            dsimp only at hK ⊢
            go_simp
            exact hK (.slice (some ⟨g, off, none⟩) fs.length cv) _ rfl rfl
          case s7 =>
            intro u W hG _ _ hd K hK
            clear hd
            clear hG
            dsimp only at hK ⊢
            go_simp
            exact hK (.int .i64 (k : Int)) _ rfl rfl
          case s8 =>
            intro u W hG _ _ hd K hK
            obtain ⟨d6, d7, -⟩ := hd
            have e6 : u 6 = .slice (some ⟨g, off, none⟩) fs.length cv := d6 rfl (.inl rfl)
            have e7 : u 7 = .int .i64 (k : Int) := d7 rfl (.inl rfl)
            clear d6 d7
            clear hG
            dsimp only at hK ⊢
            generalize u 6 = z6 at e6 hK ⊢
            subst e6
            generalize u 7 = z7 at e7 hK ⊢
            subst e7
            go_simp
            exact hK (.pointer (some ⟨g, off + k * 28, none⟩)) _ rfl rfl
          case s9 =>
            intro u W hG _ _ hd K hK
            obtain ⟨d8, -⟩ := hd
            have e8 : u 8 = .pointer (some ⟨g, off + k * 28, none⟩) := d8 rfl (.inl rfl)
            clear d8
            clear hG
            dsimp only at hK ⊢
            generalize u 8 = z8 at e8 hK ⊢
            subst e8
            go_simp
            exact hK (.pointer (some ⟨g, off + k * 28 + 5, none⟩)) _ rfl rfl
          case s10 =>
            intro u W hG _ _ hd K hK
            obtain ⟨d9, -⟩ := hd
            have e9 : u 9 = .pointer (some ⟨g, off + k * 28 + 5, none⟩) := d9 rfl (.inl rfl)
            clear d9
            exact step_load rfl 31 (.tmp 34) rfl g (off + k * 28 + 5) (.agg (ivs f.want).toArray) e9 (LW.out W hG) (hK _ _ rfl rfl)
          case s11 =>
            intro u W hG _ _ hd K hK
            obtain ⟨d0, d5, -⟩ := hd
            have e0 : u 0 = .slice (some ⟨g3, 0, none⟩) n cv3 := d0 rfl (.inl rfl)
            have e5 : u 5 = .int .i64 (f.at_ : Int) := d5 rfl (.inl rfl)
            clear d0 d5
            clear hG
            dsimp only at hK ⊢
            generalize u 0 = z0 at e0 hK ⊢
            subst e0
            generalize u 5 = z5 at e5 hK ⊢
            subst e5
            go_simp
            exact hK (.pointer (some ⟨g3, f.at_ * 14, none⟩)) _ rfl rfl
          case s12 =>
            intro u W hG _ _ hd K hK
            obtain ⟨d11, -⟩ := hd
            have e11 : u 11 = .pointer (some ⟨g3, f.at_ * 14, none⟩) := d11 rfl (.inl rfl)
            clear d11
            clear hG
            dsimp only at hK ⊢
            generalize u 11 = z11 at e11 hK ⊢
            subst e11
            go_simp
            exact hK (.pointer (some ⟨g3, f.at_ * 14 + 5, none⟩)) _ rfl rfl
          case s13 =>
            intro u W hG hg0 _ hd K hK
            obtain ⟨d12, d10, -⟩ := hd
            have e12 : u 12 = .pointer (some ⟨g3, f.at_ * 14 + 5, none⟩) := d12 rfl (.inl rfl)
            have e10 : u 10 = .agg (ivs f.want).toArray := d10 rfl (.inl rfl)
            have hown := hg0 (.inr rfl)
            refine step_store_mid rfl 31 (.tmp 37) (.tmp 35) rfl g3 (f.at_ * 14 + 5) (ivs f.want).toArray e12 e10 (HTH.out W hown) HIV.out (ivs_all f.want) ?_
            exact hK undef _ rfl (HNX.out W hown)
          case dn =>
            intro u W hG hall
            obtain ⟨-, -, -, -, -, -, -, -, -, -, -, -, -, d13, -⟩ := hall
            have HO9 := Lib.hid (d13 rfl)
            have HG9 := Lib.hid hG
            clear d13 hG
            go_wp2_with fail
            go_roundg (gk - 1)
            case measure => omega
            exact ⟨k + 1, by omega, rfl, HG9.out, HO9.out⟩
        · have : fs.take k = fs := List.take_of_length_le (by omega)
          rw [this] at HOK9
          have h1 : ¬ (k : Int) < (fs.length : Int) := by omega
          clear this hlt
          go_wp2_with fail
          go_ret2
          refine ⟨HT.out.low (HG2.out.trans HG4.out) (fun i hi => Nat.le_trans HWB.out (HOB.out i hi)), .inr ⟨HM.out, _, rfl, ?_⟩⟩
          have h9 := own_lower HOK9.out HWB.out
          rw [← HFS.out, mend_faults HM.out] at h9
          rw [HN.out]
          exact h9
  · have HM := Lib.hid hm
    clear hg2 hm hrd hok hlen
    go_wp2_with fail
    go_ret2
    exact ⟨HG2.out, .inl ⟨HM.out, rfl⟩⟩
end Go.Proofs.Ytfigoeoimefngaa
