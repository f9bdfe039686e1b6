/-
  order.decided.
-/
import Derived.Test.YtcailhkaeledbaaOrS
import Derived.Shelf.SlSortCmp.NoneTotal
namespace Go.Proofs.Ytcailhkaeledbaa
open Go.RowKit Go.Maps Go.Shelf Go.Lib Go.Sort

theorem info_nm : (Try.prog.info? 31).map (fun i => (i.zero, i.size, i.bytes)) = some (some (.agg #[.int .i64 0, .int .i64 0, .int .i64 0]), 3, 24) := by kernel_rfl
theorem nms_one (l : List Nm) : ∀ u ∈ rowsOf Nm.cs l, u.oneCell' = true := rows_all (fun x u hu => by simp only [Nm.cs, List.mem_cons, List.not_mem_nil, or_false] at hu; rcases hu with rfl | rfl | rfl <;> rfl) l
/-- An entry of the map, as the range hands it over. -/
def mkT (l : List Sn) (p : Nm × Option Addr × Nat) : Value := .agg ((tk l p.1).cs (.slice p.2.1 (st l p.1).length p.2.2))
theorem tr_shape {w : World} {B m : Nat} {l : List Sn} {V : Nm → Value} (h : Tr w B m l V) :
    ∀ key kl v, keyOf Try.prog 31 key = some kl → fT (l.map Sn.n).reverse (fun n => .agg ((tk l n).cs (V n))) kl = some v → ∃ x : Nm × Option Addr × Nat, key = x.1.v ∧ v = mkT l x ∧ kl = x.1.lit ∧ (x.1.ok ∧ x.1 ∈ l.map Sn.n) := by
  intro key kl v hk hf
  obtain ⟨n, hn, rfl, rfl⟩ := key_name hk
  rw [fT_at h.names _ hn] at hf
  by_cases hm : n ∈ (l.map Sn.n).reverse
  · rw [if_pos hm] at hf
    injection hf with hf
    obtain ⟨a, c, hv, _⟩ := own_slice (h.row n)
    exact ⟨⟨n, a, c⟩, rfl, by rw [← hf, hv]; rfl, rfl, hn, List.mem_reverse.1 hm⟩
  · rw [if_neg hm] at hf; cases hf

theorem nodup_le : ∀ (a b : List Nm), a.Nodup → (∀ x ∈ a, x ∈ b) → a.length ≤ b.length
  | [], _, _, _ => Nat.zero_le _
  | x :: a, b, h, hs => by
    obtain ⟨h1, h2⟩ := List.nodup_cons.1 h
    obtain ⟨s, t, rfl⟩ := List.append_of_mem (hs x (by simp))
    have := nodup_le a (s ++ t) h2 fun y hy => by
      have h3 := hs y (by simp [hy])
      have h4 : y ≠ x := fun e => h1 (e ▸ hy)
      simp only [List.mem_append, List.mem_cons] at h3 ⊢
      rcases h3 with h3 | h3 | h3
      · exact .inl h3
      · exact absurd h3 h4
      · exact .inr h3
    simp only [List.length_append, List.length_cons] at this ⊢
    omega
/-- The range's own block is no row's. -/
theorem Rg.apart {P : Program} {k : TypeId} {wr : World} {m r cnt B size n : Nat} {f : Lit → Option Value} {left : Lit → Bool} (h : Rg P k wr m r f left cnt) {v : Value} {e : TypeId} {xs : List Value} (hv : wr.ownsRow B e size v n xs) : v.ownBlock ≠ some r := fun hb => by
  obtain ⟨D, ⟨es, clock, since, seen, c0, h1, h2, h3, h4, h5, h6⟩, _⟩ := h
  obtain ⟨cur, hcur, _⟩ := own_typed hv hb
  rw [h5] at hcur
  cases hcur
theorem dec_unique {l : List Sn} (h : Com l) {ns : List Nm} (hnd : ns.Nodup) (hmem : ∀ n, n ∈ ns ↔ (tk l n).d = true) :
    ∀ ns' : List Nm, ns'.Perm ns → ns'.Pairwise (fun a b => (tk l a).p ≤ (tk l b).p) → ns' = decL l := by
  intro ns' hp hs
  have hnd' : ns'.Nodup := hp.nodup_iff.2 hnd
  have hm' : ∀ n, n ∈ ns' ↔ (tk l n).d = true := fun n => (hp.mem_iff).trans (hmem n)
  have hst : ns'.Pairwise (fun a b => (tk l a).p < (tk l b).p) := by
    refine (hs.and hnd').imp_of_mem ?_
    intro a b ha hb hab
    obtain ⟨h1, h2⟩ := hab
    rcases Int.lt_or_eq_of_le h1 with h3 | h3
    · exact h3
    · exfalso
      obtain ⟨i, x, a1, _, a3, a4⟩ := h.got a (h.dec a ((hm' a).1 ha))
      obtain ⟨j, y, b1, _, b3, b4⟩ := h.got b (h.dec b ((hm' b).1 hb))
      have e : i = j := by omega
      subst e
      rw [a1] at b1
      injection b1 with b1
      subst b1
      exact h2 (a3.symm.trans b3)
  exact rise_unique hst (decL_rises h) (fun n => (hm' n).trans (mem_decL h n).symm)
set_option maxHeartbeats 4000000 in
theorem decided_any {w : World} {B m : Nat} {l : List Sn} {V : Nm → Value} (h : Tr w B m l V) (hl : l.length ≤ 1000000) (hc : Com l) :
    Calls Try.prog 16 #[.map (some m)] w fun e w' => ∃ a cap, e = .returned (.slice a (decL l).length cap) ∧ Rd w' a (rowsOf Nm.cs (decL l)) ∧ (decL l).length ≤ cap ∧ Grows w w' ∧ ∀ b off, a = some ⟨b, off, none⟩ → w.heap.size ≤ b := by
  have H := Lib.hid h
  have HL := Lib.hid hl
  have HC := Lib.hid hc
  clear h hl hc
  have HW : Hid (Tr (w.alloc (.cells #[.map (some m)] 44)) B m l V) := H.out.grows ((Grows.refl _).alloc _)
  obtain ⟨i0, hi0, hz0, hz1, hz2⟩ := info_parts info_nm
  obtain ⟨f, hf⟩ : ∃ f, f = fT (l.map Sn.n).reverse (fun n => .agg ((tk l n).cs (V n))) := ⟨_, rfl⟩
  have HF := Lib.hid hf
  have HMP : Hid (Mp Try.prog 31 (w.alloc (.cells #[.map (some m)] 44)) m f) := by show Mp _ _ _ _ _; rw [hf]; exact HW.out.map
  have HSH : Hid (∀ key kl v, keyOf Try.prog 31 key = some kl → f kl = some v → ∃ x : Nm × Option Addr × Nat, key = x.1.v ∧ v = mkT l x ∧ kl = x.1.lit ∧ (x.1.ok ∧ x.1 ∈ l.map Sn.n)) := by
    show ∀ _, _
    rw [hf]
    exact tr_shape H.out
  clear hf
  go_enter Try.func16, Try.ntmps16
  go_wp2_with (at_range; refine wpList_range_mp _ rfl _ 44 rfl 31 54 nameLaw Try.underlying44 m f rfl HMP.out ?_; intro w0 cnt0 hrg0 hg0 hs0)
  go_frame
  rw [World.size_alloc] at hrg0 hs0 ⊢
  have HRG0 := Lib.hid hrg0
  have HG0 : Hid (Grows w w0) := ((Grows.refl w).alloc _).trans hg0
  have HB0 : Hid (At w0 w.heap.size 44 #[.map (some m)]) := (At.new w _ _).grows hg0
  have HIN : Hid (∀ n : Nm, n.ok → (f n.lit).isSome = true ∨ n ∉ l.map Sn.n) := fun n hn => by
    rw [HF.out, fT_at H.out.names _ hn]
    by_cases hm : n ∈ l.map Sn.n
    · left; rw [if_pos (List.mem_reverse.2 hm)]; rfl
    · exact .inr hm
  clear hrg0 hg0 hs0
  go_loopg [3] cnt0 (fun gh v3 wr => ∃ (left : Lit → Bool) (ns : List Nm), Rg Try.prog 31 wr m (w.heap.size + 1) f left gh ∧ wr.ownsRow w.heap.size 31 3 v3 ns.length (rowsOf Nm.cs ns) ∧ Grows w wr ∧ At wr w.heap.size 44 #[.map (some m)] ∧ (∀ n, n ∈ ns ↔ (n.ok ∧ n ∈ l.map Sn.n ∧ (tk l n).d = true ∧ left n.lit = false)) ∧ ns.Nodup)
  case atStart =>
    refine ⟨_, [], HRG0.out, World.ownsRow_nil _ _ _ _, HG0.out, HB0.out, fun n => ⟨(fun h => by cases h), fun ⟨h1, h2, _, h4⟩ => ?_⟩, List.nodup_nil⟩
    rcases HIN.out n h1 with h | h
    · rw [h] at h4; cases h4
    · exact absurd h2 h
  case round =>
    obtain ⟨left, ns, hrg, hown, hg, hB, hin, hnd⟩ := hrel
    have HRG := Lib.hid hrg
    have HOWN := Lib.hid hown
    have HG := Lib.hid hg
    have HBX := Lib.hid hB
    have HNS := Lib.hid hin
    have HND := Lib.hid hnd
    clear hrg hown hg hB hin hnd
    go_wp2_with (at_next; refine wpList_next_mp2 _ rfl (.tmp 7) rfl 31 nameLaw (fun p : Nm × Option Addr × Nat => p.1.v) (mkT l) (fun p => p.1.lit) (fun p => p.1.ok ∧ p.1 ∈ l.map Sn.n) m (w.heap.size + 1) f left gk HSH.out rfl HRG.out ?done ?more)
    case done =>
      intro hl0
      have hmem : ∀ n, n ∈ ns ↔ (tk l n).d = true := fun n => by
        rw [HNS.out n]
        constructor
        · exact fun h => h.2.2.1
        · intro hd
          have h1 := (mem_decL HC.out n).2 hd
          unfold decL at h1
          obtain ⟨x, hx, rfl⟩ := List.mem_map.1 h1
          have hx' := (List.mem_filter.1 hx).1
          exact ⟨H.out.ok x hx', List.mem_map.2 ⟨x, hx', rfl⟩, hd, hl0 _⟩
      have HFIN := Lib.hid (dec_unique HC.out HND.out hmem)
      have HOKN : Hid (∀ n ∈ ns, n.ok) := Lib.hid (fun n hn => ((HNS.out n).1 hn).1)
      have HLEN : Hid (ns.length ≤ 1000000) := Lib.hid (by
        have := nodup_le ns (l.map Sn.n) HND.out (fun y hy => ((HNS.out y).1 hy).2.1)
        rw [List.length_map] at this
        have := HL.out
        omega)
      have HTR := Lib.hid (H.out.grows HG.out)
      clear hl0 hmem
      by_cases hnil : ns = []
      · subst hnil
        have e0 : decL l = [] := (HFIN.out [] (List.Perm.refl _) List.Pairwise.nil).symm
        obtain ⟨a, c, rfl, _⟩ := own_slice HOWN.out
        have HE := Lib.hid e0
        clear e0
        go_wp2_with fail
        refine (AnyF.slices_SortFunc_none sortNm a c _ _).mono ?_
        rintro e w2 ⟨rfl, rfl⟩
        go_wp2_with fail
        go_ret
        rw [HE.out]
        exact ⟨a, c, rfl, Rd.nil _ _, Nat.zero_le _, HG.out, fun b off e => by subst e; exact (HOWN.out.lt b rfl).1⟩
      · have hpos : 0 < ns.length := List.length_pos_iff.2 hnil
        rcases HOWN.out.2 with ⟨_, h0⟩ | ⟨g, cap, cur, rfl, hg0, hcur, hcap, _, _⟩
        · omega
        have HPOS := Lib.hid hpos
        have HGE := Lib.hid hg0
        have HCAP := Lib.hid hcap
        clear hnil hpos hg0 hcur hcap
        go_wp2_with fail
        refine (sort_any HTR.out HBX.out ns HOKN.out HOWN.out HLEN.out).mono ?_
        rintro e w2 ⟨rfl, ns', hp, hs, hrd, hT⟩
        have he := HFIN.out ns' hp hs
        subst he
        have HP := Lib.hid hp.length_eq
        have HRD := Lib.hid hrd
        have HG2 := Lib.hid (hT.low HG.out (fun i hi => by rw [hi]; exact HGE.out))
        clear hp hs hrd hT
        go_wp2_with fail
        go_ret
        exact ⟨some ⟨g, 0, none⟩, cap, by rw [HP.out]; rfl, HRD.out, by rw [HP.out]; exact HCAP.out, HG2.out, fun b off e => by injection e with e; injection e with e; subst e; exact HGE.out⟩
    case more =>
      intro x ax cx' w1 cnt' hxo y hy hyx hlx hrg1 hlt1 hgr1 hs1 hen1
      have hGx : x.ok ∧ x ∈ l.map Sn.n := ⟨hxo, List.mem_map.2 ⟨y, hy, hyx⟩⟩
      have hown1 := own_keep HOWN.out (w1 := w1) (fun b hb => hgr1.block b (own_typed HOWN.out hb).choose_spec.2.2 (fun e => HRG.out.apart HOWN.out (by rw [hb, e])))
      have hsz := HBX.out.lt
      have hg1 : Grows w w1 := ⟨hgr1.os.trans HG.out.os, hgr1.tape.trans HG.out.tape, hgr1.output.trans HG.out.output, Nat.le_trans HG.out.size hgr1.size, fun i hi => (hgr1.block i (Nat.lt_of_lt_of_le hi HG.out.size) (fun e => by injection e with e; omega)).trans (HG.out.block i hi)⟩
      have hB1 : At w1 w.heap.size 44 #[.map (some m)] := (hgr1.block _ hsz (fun e => by injection e with e; omega)).trans HBX.out
      have HOWN1 := Lib.hid hown1
      have HG1 := Lib.hid hg1
      have HB1 := Lib.hid hB1
      have HRG1 := Lib.hid hrg1
      have HGX := Lib.hid hGx
      have HLX := Lib.hid hlx
      have HLT := Lib.hid hlt1
      unfold mkT Tk.cs Nm.v at hen1
      simp only at hen1
      clear hown1 hsz hg1 hB1 hrg1 hGx hlx hlt1 hgr1 hs1
      unfold mkT Tk.cs Nm.v
      simp only
      have HLEFT : Hid (∀ n : Nm, n.ok → ((left n.lit && !n.lit.sameKey x.lit) = false ↔ (left n.lit = false ∨ n = x))) := fun n hn => by
        by_cases e : n = x
        · subst e; rw [lit_same hn]; simp
        · rw [lit_other hn HGX.out.1 e]; simp [e]
      have HXN : Hid (x ∉ ns) := fun e => by
        have := ((HNS.out x).1 e).2.2.2
        rw [HLX.out] at this
        cases this
      cases hd : (tk l x).d
      · have HD := Lib.hid hd
        go_wp2_with fail
        go_roundg cnt'
        case measure => exact HLT.out
        case rel =>
          refine ⟨_, ns, HRG1.out.grows (((Grows.refl _).alloc _).alloc _), own_grows HOWN1.out (((Grows.refl _).alloc _).alloc _), (HG1.out.alloc _).alloc _, (HB1.out.alloc _).alloc _, fun n => ?_, HND.out⟩
          rw [HNS.out n]
          constructor
          · rintro ⟨h1, h2, h3, h4⟩
            exact ⟨h1, h2, h3, (HLEFT.out n h1).2 (.inl h4)⟩
          · rintro ⟨h1, h2, h3, h4⟩
            rcases (HLEFT.out n h1).1 h4 with h | h
            · exact ⟨h1, h2, h3, h⟩
            · subst h; rw [HD.out] at h3; cases h3
      · have HD := Lib.hid hd
        have hlen : ns.length ≤ l.length := by
          have := nodup_le ns (l.map Sn.n) HND.out (fun y hy => ((HNS.out y).1 hy).2.1)
          rwa [List.length_map] at this
        have HLEN := Lib.hid hlen
        clear hlen
        go_wp2_with (at_builtin; (refine wpList_append_rd _ rfl (.tmp 15) (.tmp 17) 26 rfl w.heap.size 31 i0 (.agg #[.int .i64 0, .int .i64 0, .int .i64 0]) 3 24 Try.underlying26 hi0 hz0 hz1 hz2 rfl (by decide) u3 ns.length (rowsOf Nm.cs ns) rfl (own_grows HOWN1.out ((((Grows.refl _).alloc _).alloc _).alloc _)) (some ⟨w1.heap.size + 1 + 1, 0, none⟩) 1 1 x.cs rfl ?rd rfl (nms_one [x]) (by have h1 := HLEN.out; have h2 := HL.out; unfold maxLen; omega) (by have h1 := HLEN.out; have h2 := HL.out; omega) (by have := HG1.out.size; simp; omega) ?app))
        case rd =>
          have := rd_new ((w1.alloc (.cells #[.int .i64 x.s, .int .i64 x.i, .int .i64 x.t] 31)).alloc (.cells #[.bool (tk l x).b, .bool (tk l x).c, .bool (tk l x).a, .bool true, .int .i64 (tk l x).p, .slice ax (st l x).length cx'] 54)) #[.int .i64 x.s, .int .i64 x.i, .int .i64 x.t] 31 (0, 0)
          rw [World.size_alloc, World.size_alloc] at this
          exact this
        case app =>
          intro v4 w4 hown4 hgr4 hat4
          have hG3 : Grows w1 (((w1.alloc (.cells #[.int .i64 x.s, .int .i64 x.i, .int .i64 x.t] 31)).alloc (.cells #[.bool (tk l x).b, .bool (tk l x).c, .bool (tk l x).a, .bool true, .int .i64 (tk l x).p, .slice ax (st l x).length cx'] 54)).alloc (.cells #[.int .i64 x.s, .int .i64 x.i, .int .i64 x.t] 31)) := (((Grows.refl _).alloc _).alloc _).alloc _
          have hkeep : ∀ i, i < w1.heap.size → u3.ownBlock ≠ some i → w4.heap[i]? = w1.heap[i]? := fun i hi hn => (hgr4.block i (Nat.lt_of_lt_of_le hi hG3.size) (fun e => hn e.symm)).trans (hG3.block i hi)
          obtain ⟨esm, clm, hbm⟩ := HRG1.out.mp.block
          have hRg4 := HRG1.out.same (w' := w4) (hkeep m HRG1.out.mp.lt (fun e => by
            obtain ⟨cur, q, _⟩ := own_typed HOWN1.out e
            rw [hbm] at q
            cases q)) (hkeep _ HRG1.out.lt (HRG1.out.apart HOWN1.out))
          have hB4 : At w4 w.heap.size 44 #[.map (some m)] := (hkeep _ HB1.out.lt (own_apart HOWN1.out HB1.out (by decide))).trans HB1.out
          have hG4 : Grows w w4 := ⟨hgr4.os.trans (hG3.os.trans HG1.out.os), hgr4.tape.trans (hG3.tape.trans HG1.out.tape), hgr4.output.trans (hG3.output.trans HG1.out.output), Nat.le_trans HG1.out.size (Nat.le_trans hG3.size hgr4.size), fun i hi => (hkeep i (Nat.lt_of_lt_of_le hi HG1.out.size) (fun e => by
            obtain ⟨_, _, q, _⟩ := own_typed HOWN1.out e
            omega)).trans (HG1.out.block i hi)⟩
          have HR4 := Lib.hid hRg4
          have HB4 := Lib.hid hB4
          have HG4 := Lib.hid hG4
          have HO4 := Lib.hid hown4
          clear hG3 hkeep hbm hRg4 hB4 hG4 hown4 hgr4 hat4
          go_wp2_with fail
          go_roundg cnt'
          case measure => exact HLT.out
          case rel =>
            refine ⟨_, ns ++ [x], HR4.out, ?_, HG4.out, HB4.out, fun n => ?_, ?_⟩
            · rw [List.length_append, rows_append, rows_one]; exact HO4.out
            · rw [List.mem_append, List.mem_singleton, HNS.out n]
              constructor
              · rintro (⟨h1, h2, h3, h4⟩ | rfl)
                · exact ⟨h1, h2, h3, (HLEFT.out n h1).2 (.inl h4)⟩
                · exact ⟨HGX.out.1, HGX.out.2, HD.out, (HLEFT.out n HGX.out.1).2 (.inr rfl)⟩
              · rintro ⟨h1, h2, h3, h4⟩
                rcases (HLEFT.out n h1).1 h4 with h | h
                · exact .inl ⟨h1, h2, h3, h⟩
                · exact .inr h
            · rw [List.nodup_append]
              exact ⟨HND.out, by simp, fun a ha b hb e => HXN.out (by rw [List.mem_singleton.1 hb] at e; rw [← e]; exact ha)⟩
end Go.Proofs.Ytcailhkaeledbaa
