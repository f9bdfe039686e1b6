/-
  graph.From: the walk of the closure.
-/
import Derived.Test.YtpllcjggjjapoaaGrD
import Derived.Test.YtpllcjggjjapoaaOwn
namespace Go.Proofs.Ytpllcjggjjapoaa
open Go.RowKit Go.Maps Go.ChangeMaps Go.MapKept Go.WideElems

abbrev ptr (g : Nat) : Value := .pointer (some ⟨g, 0, none⟩)
/-- What the closure of From sees. -/
structure FrS (B BO gR gS gO gW m ms : Nat) (E : List Ed) (V : Nm → Value) (S out : List Nm) (w : World) : Prop where
  bR : At w gR 35 #[.map (some m)]
  bS : At w gS 38 #[.map (some ms)]
  bO : ∃ v, At w gO 28 #[v] ∧ w.ownsRow BO 24 3 v out.length (nms out)
  bW : At w gW 39 #[.func (.func 14) #[] #[ptr gR, ptr gS, ptr gO, ptr gW]]
  rows : Rw w B m E V
  set : Se w ms S
  low : ∀ n b, (V n).ownBlock = some b → b < BO
  mne : m ≠ ms
  lo : BO ≤ w.heap.size
theorem At.type_ne {w : World} {g g' : Nat} {t t' : TypeId} {cs cs' : Array Value} (h : At w g t cs) (h' : At w g' t' cs') (ht : t ≠ t') : g ≠ g' := by
  rintro rfl
  unfold At at h h'
  rw [h] at h'
  injection h' with h'
  injection h' with _ h'
  exact ht h'
theorem At.no_map {w : World} {g m : Nat} {t : TypeId} {cs : Array Value} {P : Program} {k : TypeId} {f : Lit → Option Value} (h : At w g t cs) (hm : Mp P k w m f) : g ≠ m := by
  rintro rfl
  obtain ⟨es, cl, q⟩ := hm.block
  unfold At at h
  rw [h] at q
  cases q
theorem own_no_map {w : World} {B m n size : Nat} {t : TypeId} {v : Value} {xs : List Value} {P : Program} {k : TypeId} {f : Lit → Option Value} (h : w.ownsRow B t size v n xs) (hm : Mp P k w m f) {b : Nat} (hb : v.ownBlock = some b) : b ≠ m := by
  rintro rfl
  obtain ⟨cur, q, _⟩ := own_typed h hb
  obtain ⟨es, cl, q2⟩ := hm.block
  rw [q2] at q
  cases q
section
variable {B BO gR gS gO gW m ms : Nat} {E : List Ed} {V : Nm → Value} {S S' out : List Nm} {w w' : World}
theorem FrS.grows (h : FrS B BO gR gS gO gW m ms E V S out w) (hg : Grows w w') : FrS B BO gR gS gO gW m ms E V S out w' := by
  obtain ⟨v, h1, h2⟩ := h.bO
  exact ⟨h.bR.grows hg, h.bS.grows hg, ⟨v, h1.grows hg, own_grows h2 hg⟩, h.bW.grows hg, h.rows.grows hg, h.set.grows hg, h.low, h.mne, Nat.le_trans h.lo hg.size⟩
theorem FrS.turn (h : FrS B BO gR gS gO gW m ms E V S out w) (ht : Turns (fun i => i = ms) w w' (fun i => i = ms)) (hs : Se w' ms S') : FrS B BO gR gS gO gW m ms E V S' out w' := by
  obtain ⟨v, h1, h2⟩ := h.bO
  refine ⟨ht.at h.bR (h.bR.no_map h.set.map), ht.at h.bS (h.bS.no_map h.set.map), ⟨v, ht.at h1 (h1.no_map h.set.map), own_keep h2 fun b hb => ht.block b (own_typed h2 hb).choose_spec.2.2 (own_no_map h2 h.set.map hb)⟩, ht.at h.bW (h.bW.no_map h.set.map), h.rows.same (ht.block m h.rows.map.lt h.mne) (fun n b hb => ht.block b (own_typed (h.rows.row n) hb).choose_spec.2.2 (own_no_map (h.rows.row n) h.set.map hb)), hs, h.low, h.mne, Nat.le_trans h.lo ht.size⟩
theorem FrS.push (h : FrS B BO gR gS gO gW m ms E V S out w) {v v' : Value} {x : Nm} (h1 : At w gO 28 #[v]) (h2 : w.ownsRow BO 24 3 v out.length (nms out)) (hown : w'.ownsRow BO 24 3 v' (out.length + 1) (nms out ++ x.cs)) (hg : w.grownBy w' v.ownBlock) :
    FrS B BO gR gS gO gW m ms E V S (out ++ [x]) (w'.setCell ⟨gO, 0, none⟩ v') := by
  have hk : ∀ i, i < w.heap.size → v.ownBlock ≠ some i → i ≠ gO → (w'.setCell ⟨gO, 0, none⟩ v').heap[i]? = w.heap[i]? := fun i hi hv ho =>
    (RowKit.Below.heap_setCell w' ⟨gO, 0, none⟩ v' i ho).trans (hg.block i hi (Ne.symm hv))
  have hat : ∀ {g : Nat} {t : TypeId} {cs : Array Value}, At w g t cs → t ≠ 24 → g ≠ gO → At (w'.setCell ⟨gO, 0, none⟩ v') g t cs := fun ha ht hgo => (hk _ ha.lt (own_apart h2 ha (Ne.symm ht)) hgo).trans ha
  have hO' : At w' gO 28 #[v] := (hg.block gO h1.lt (Ne.symm (own_apart h2 h1 (by decide)))).trans h1
  refine ⟨hat h.bR (by decide) (h.bR.type_ne h1 (by decide)), hat h.bS (by decide) (h.bS.type_ne h1 (by decide)), ⟨v', hO'.set 0 v', ?_⟩, hat h.bW (by decide) (h.bW.type_ne h1 (by decide)), h.rows.same (hk m h.rows.map.lt (fun e => own_no_map h2 h.rows.map e rfl) (fun e => h1.no_map h.rows.map e.symm)) (fun n b hb => ?_), h.set.same (hk ms h.set.map.lt (fun e => own_no_map h2 h.set.map e rfl) (fun e => h1.no_map h.set.map e.symm)), h.low, h.mne, Nat.le_trans h.lo (by simpa using hg.size)⟩
  · rw [List.length_append, nms_append, show nms [x] = x.cs by rw [nms_cons]; exact List.append_nil _]
    refine own_keep hown fun b hb => RowKit.Below.heap_setCell w' ⟨gO, 0, none⟩ v' b ?_
    exact fun e => own_apart hown hO' (by decide) (by rw [hb, e])
  · obtain ⟨cur, q, _, hlt⟩ := own_typed (h.rows.row n) hb
    refine hk b hlt (fun e => ?_) (fun e => ?_)
    · have := (own_typed h2 e).choose_spec.2.1
      have := h.low n b hb
      omega
    · exact own_apart (h.rows.row n) h1 (by decide) (by rw [hb, e])
end
def FrPost (B BO gR gS gO gW m ms : Nat) (E : List Ed) (V : Nm → Value) (w0 : World) (n : Nm) (out : List Nm) (e : Ending) (w' : World) : Prop :=
  e = .returned (.tuple #[]) ∧ ∃ out', FrS B BO gR gS gO gW m ms E V out'.reverse out' w' ∧ FrJ E n (suc E n) (suc E n).length out out' ∧ Grows w0 w'
set_option maxHeartbeats 4000000 in
theorem from1_any (B BO gR gS gO gW m ms : Nat) (E : List Ed) (hE : E.length ≤ 200) (V : Nm → Value) (w0 : World) (hb : w0.heap.size ≤ gO ∧ w0.heap.size ≤ ms ∧ w0.heap.size ≤ BO) : ∀ (k : Nat) (out : List Nm) (W : World) (n : Nm), n.ok → FrS B BO gR gS gO gW m ms E V out.reverse out W → out.Nodup → (∀ x ∈ out, x ∈ E.map Prod.snd) → E.length - out.length ≤ k → Grows w0 W →
    Calls Try.prog 14 #[n.v, ptr gR, ptr gS, ptr gO, ptr gW] W (FrPost B BO gR gS gO gW m ms E V w0 n out) := by
  intro k
  induction k using Nat.strongRecOn with
  | _ k ih =>
  intro out W n hn hS hnd hsub hk hg
  obtain ⟨i0, hi0, hz0, hz1, hz2⟩ := info_parts info_nm
  have HIH := Lib.hid ih
  have HE := Lib.hid hE
  have HB := Lib.hid hb
  have HND := Lib.hid hnd
  have HSUB := Lib.hid hsub
  have HK := Lib.hid hk
  have HS0 := Lib.hid (hS.grows ((Grows.refl _).alloc (.cells #[.int .i64 n.s, .int .i64 n.i, .int .i64 n.t] 24)))
  have HG0 := Lib.hid (hg.alloc (.cells #[.int .i64 n.s, .int .i64 n.i, .int .i64 n.t] 24))
  have cR := hS.bR.cell 0
  have hlR := hS.bR.lt
  have hlk := HS0.out.rows.look hn
  obtain ⟨an, cn, hvn, _⟩ := own_slice (HS0.out.rows.row n)
  have HVN := Lib.hid hvn
  rw [hvn] at hlk
  have HLS : Hid ((suc E n).length ≤ 200) := Lib.hid (Nat.le_trans (suc_len E n) hE)
  unfold Nm.v at hlk ⊢
  clear ih hE hb hnd hsub hk hS hg hn hvn
  obtain ⟨ts, hts⟩ : ∃ ts, suc E n = ts := ⟨_, rfl⟩
  rw [hts] at hlk HLS
  have HTS := Lib.hid hts
  clear hts
  go_enter Try.func14, Try.ntmps14
  go_wp2_with fail
  clear cR hlR hlk
  go_loopg [12] ts.length (fun gh v12 wr => ∃ (j : Nat) (outj : List Nm), gh + j = ts.length ∧ v12 = .int .i64 (j : Int) ∧ FrS B BO gR gS gO gW m ms E V outj.reverse outj wr ∧ FrJ E n ts j out outj ∧ Grows w0 wr)
  case atStart => exact ⟨0, out, by omega, rfl, HS0.out, FrJ.start HND.out, HG0.out⟩
  case round =>
    obtain ⟨j, outj, hgj, rfl, hS, hJ, hg⟩ := hrel
    have HS := Lib.hid hS
    have HJ := Lib.hid hJ
    have HG := Lib.hid hg
    clear hS hJ hg
    have hls := HLS.out
    by_cases hlt : j < ts.length
    · have hj1 : (j : Int) < (ts.length : Int) := by omega
      have hrow : Rd wr an (nms ts) := by
        have := HS.out.rows.row n
        rw [HVN.out, HTS.out] at this
        exact Rd.own this
      obtain ⟨gT, oT, rfl, hgT, d0, d1, d2⟩ := cells3 hrow hlt
      have HX := Lib.hid (List.getElem?_eq_getElem hlt)
      have HXE : Hid ((n, ts[j]) ∈ E) := Lib.hid (mem_suc.1 (by rw [HTS.out]; exact List.getElem_mem hlt))
      generalize ts[j] = x at *
      have HXO := Lib.hid ((HS.out.rows.ok _ HXE.out).2)
      have cS := HS.out.bS.cell 0
      have hlS := HS.out.bS.lt
      have HS1 := Lib.hid (HS.out.grows ((Grows.refl _).alloc (.cells #[.int .i64 x.s, .int .i64 x.i, .int .i64 x.t] 24)))
      have HG1 := Lib.hid (HG.out.alloc (.cells #[.int .i64 x.s, .int .i64 x.i, .int .i64 x.t] 24))
      have HBX := Lib.hid (At.new wr 24 #[.int .i64 x.s, .int .i64 x.i, .int .i64 x.t])
      have HLN := Lib.hid (HJ.out.len HSUB.out)
      have HADD := Lib.hid (add_any x HXO.out outj.reverse (by rw [List.length_reverse]; have := HLN.out.2; have := HE.out; omega) ms _ HS1.out.set)
      obtain ⟨v, hO0, hOwn0⟩ := HS.out.bO
      have HO0 := Lib.hid hO0
      have HOWN0 := Lib.hid hOwn0
      clear hrow hgT hO0 hOwn0
      unfold Nm.v at HADD
      go_wp2_with fail
      refine HADD.out.mono ?_
      rintro e w2 ⟨hT, ⟨hin, rfl, hse⟩ | ⟨hin, rfl, hse⟩⟩
      · have HS2 := Lib.hid (HS1.out.turn hT hse)
        have HG2 := Lib.hid (hT.low HG1.out (fun i hi => by have := HB.out; omega))
        have HJ2 := Lib.hid (HJ.out.skip HX.out (List.mem_reverse.1 hin))
        clear hT hse hin
        go_wp2_with fail
        go_roundg (gk - 1)
        case measure => omega
        case rel => exact ⟨j + 1, outj, by omega, by go_num, HS2.out, HJ2.out, HG2.out⟩
      · have HS2 := Lib.hid (HS1.out.turn hT hse)
        have HG2 := Lib.hid (hT.low HG1.out (fun i hi => by have := HB.out; omega))
        have HNI : Hid (x ∉ outj) := Lib.hid (fun e => hin (List.mem_reverse.2 e))
        have HBX2 := Lib.hid (hT.at HBX.out (HBX.out.no_map HS1.out.set.map))
        have HO := Lib.hid (hT.at (HO0.out.alloc (.cells #[.int .i64 x.s, .int .i64 x.i, .int .i64 x.t] 24)) ((HO0.out.alloc (.cells #[.int .i64 x.s, .int .i64 x.i, .int .i64 x.t] 24)).no_map HS1.out.set.map))
        have hown1 := own_grows HOWN0.out ((Grows.refl _).alloc (.cells #[.int .i64 x.s, .int .i64 x.i, .int .i64 x.t] 24))
        have HOWN := Lib.hid (own_keep hown1 fun b hb => hT.block b (own_typed hown1 hb).choose_spec.2.2 (own_no_map hown1 HS1.out.set.map hb))
        clear hown1
        have hO := HO.out
        have hOwn := HOWN.out
        clear hT hse hin d0 d1 d2 cS hlS HADD
        have cO := hO.cell 0
        have fO := hO.frozen 0
        have hlO := hO.lt
        have cX := HBX2.out.cell
        have hlX := HBX2.out.lt
        have HX3 : Hid (Rd (w2.alloc (.cells #[.int .i64 x.s, .int .i64 x.i, .int .i64 x.t] 24)) (some ⟨w2.heap.size, 0, none⟩) x.cs) := Lib.hid (rd_new w2 #[.int .i64 x.s, .int .i64 x.i, .int .i64 x.t] 24 (0, 0))
        have HS3 := Lib.hid (HS2.out.grows ((Grows.refl _).alloc (.cells #[.int .i64 x.s, .int .i64 x.i, .int .i64 x.t] 24)))
        have HG3 := Lib.hid (HG2.out.alloc (.cells #[.int .i64 x.s, .int .i64 x.i, .int .i64 x.t] 24))
        have HO3 := Lib.hid (HO.out.alloc (.cells #[.int .i64 x.s, .int .i64 x.i, .int .i64 x.t] 24))
        have HOWN3 := Lib.hid (own_grows HOWN.out ((Grows.refl _).alloc (.cells #[.int .i64 x.s, .int .i64 x.i, .int .i64 x.t] 24)))
        obtain ⟨av, cv, hvv, _⟩ := own_slice hOwn
        have HVV := Lib.hid hvv
        rw [hvv] at cO
        clear hO hOwn hvv
        go_wp2_with (at_builtin; (refine wpList_append_rd _ rfl (.tmp 19) (.tmp 21) 28 rfl BO 24 i0 (.agg #[.int .i64 0, .int .i64 0, .int .i64 0]) 3 24 Try.underlying28 hi0 hz0 hz1 hz2 rfl (by decide) v outj.length (nms outj) ?ev HOWN3.out (some ⟨w2.heap.size, 0, none⟩) 1 1 x.cs rfl HX3.out rfl (nms_one [x]) (by have h1 := HLN.out.2; have := HE.out; unfold maxLen; omega) (by have h1 := HLN.out.2; have := HE.out; omega) ?eb ?app))
        case ev => exact HVV.out.symm
        case eb => have := HS2.out.lo; rw [World.size_alloc]; omega
        case app =>
          intro v4 w4 hown hgr hbl
          obtain ⟨a4, c4, hv4, _⟩ := own_slice hown
          subst hv4
          have HS5 := Lib.hid (HS3.out.push HO3.out HOWN3.out hown hgr)
          have HG5 := Lib.hid ((HG3.out.grown hgr (fun b hb => by have := (own_typed HOWN3.out hb).choose_spec.2.1; have := HB.out; omega)).setCell (p := ⟨gO, 0, none⟩) HB.out.1 (.slice a4 (outj.length + 1) c4))
          have hO4 : At w4 gO 28 #[v] := (hgr.block gO HO3.out.lt (Ne.symm (own_apart HOWN3.out HO3.out (by decide)))).trans HO3.out
          have hBX4 : At w4 wr.heap.size 24 #[.int .i64 x.s, .int .i64 x.i, .int .i64 x.t] := (hgr.block _ (HBX2.out.alloc (.cells #[.int .i64 x.s, .int .i64 x.i, .int .i64 x.t] 24)).lt (fun e => by
            have := (own_typed HOWN0.out e.symm).choose_spec.2.2
            omega)).trans (HBX2.out.alloc _)
          have cO4 := hO4.cell 0
          have fO4 := hO4.frozen 0
          have cX4 := hBX4.cell
          have hne : wr.heap.size ≠ gO := by have := HO0.out.lt; omega
          have hB5 := hBX4.far (p := ⟨gO, 0, none⟩) hne (.slice a4 (outj.length + 1) c4)
          have cX5 := hB5.cell
          have cW5 := HS5.out.bW.cell 0
          clear hown hgr hbl hO4 hBX4 cO fO hlO cX hlX
          go_wp2_with fail
          clear cO4 fO4 cX4 hne hB5 cX5 cW5
          have HJ1 : Hid (FrJ E n (suc E n) j out outj) := Lib.hid (by have := HJ.out; rwa [← HTS.out] at this)
          have HX1 : Hid ((suc E n)[j]? = some x) := Lib.hid (by rw [HTS.out]; exact HX.out)
          have hnd5 : (outj ++ [x]).Nodup := List.nodup_append.2 ⟨HJ.out.nd, by simp, fun a ha b hb e => HNI.out (by rw [List.mem_singleton.1 hb] at e; rw [← e]; exact ha)⟩
          have hsub5 : ∀ z ∈ outj ++ [x], z ∈ E.map Prod.snd := fun z hz => by
            rcases List.mem_append.1 hz with hz | hz
            · exact HLN.out.1 z hz
            · rw [List.mem_singleton.1 hz]; exact List.mem_map.2 ⟨_, HXE.out, rfl⟩
          have hlen5 : outj.length + 1 ≤ E.length := by
            have := nodup_le _ _ hnd5 hsub5
            rwa [List.length_append, List.length_map, List.length_singleton] at this
          have hmon : out.length ≤ outj.length := by
            obtain ⟨new, e, _⟩ := HJ.out.new
            rw [e, List.length_append]
            omega
          have HR5 := Lib.hid (HIH.out (E.length - (outj.length + 1)) (by have := HK.out; omega) (outj ++ [x]) _ x HXO.out (by rw [List.reverse_append]; exact HS5.out) hnd5 hsub5 (by rw [List.length_append, List.length_singleton]; exact Nat.le_refl _) HG5.out)
          unfold Nm.v at HR5
          clear hnd5 hsub5 hlen5 hmon
          refine HR5.out.mono ?_
          rintro e w6 ⟨rfl, out6, hS6, hJ6, hG6⟩
          have HS6 := Lib.hid hS6
          have HJ6 : Hid (FrJ E n ts (j + 1) out out6) := Lib.hid (by rw [← HTS.out]; exact HJ1.out.next HX1.out hJ6)
          have HG6 := Lib.hid hG6
          clear hS6 hJ6 hG6 HR5
          go_wp2_with fail
          go_roundg (gk - 1)
          case measure => omega
          case rel => exact ⟨j + 1, out6, by omega, by go_num, HS6.out, HJ6.out, HG6.out⟩
    · have hge : ¬ (j : Int) < (ts.length : Int) := by omega
      obtain rfl : j = ts.length := by omega
      have HF : Hid (FrPost B BO gR gS gO gW m ms E V w0 n out (.returned (.tuple #[])) wr) := Lib.hid ⟨rfl, outj, HS.out, by rw [HTS.out]; exact HJ.out, HG.out⟩
      clear hlt
      go_wp2_with fail
      go_end0
      exact HF.out
end Go.Proofs.Ytpllcjggjjapoaa
