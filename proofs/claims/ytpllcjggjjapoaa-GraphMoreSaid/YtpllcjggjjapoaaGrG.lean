/-
  graph.deep: the walk of the closure.
-/
import Derived.Test.YtpllcjggjjapoaaGrF
namespace Go.Proofs.Ytpllcjggjjapoaa
open Go.RowKit Go.Maps Go.ChangeMaps Go.MapKept Go.WideElems

/-- What the closure of deep sees. -/
structure DpS (B gK gU gR gW m ms mk : Nat) (E : List Ed) (V : Nm → Value) (K U : List Nm) (d : Nm → Nat) (w : World) : Prop where
  bK : At w gK 43 #[.map (some mk)]
  bU : At w gU 38 #[.map (some ms)]
  bR : At w gR 35 #[.map (some m)]
  bW : At w gW 44 #[.func (.func 18) #[] #[ptr gK, ptr gU, ptr gR, ptr gW]]
  rows : Rw w B m E V
  under : Se w ms U
  known : Mp Try.prog 24 w mk (fT K fun n => .int .i64 ((d n : Nat) : Int))
  kok : ∀ n ∈ K, n.ok
  n1 : m ≠ ms
  n2 : mk ≠ ms
  n3 : m ≠ mk
section
variable {B gK gU gR gW m ms mk : Nat} {E : List Ed} {V : Nm → Value} {K U U' : List Nm} {d : Nm → Nat} {w w' : World}
theorem DpS.grows (h : DpS B gK gU gR gW m ms mk E V K U d w) (hg : Grows w w') : DpS B gK gU gR gW m ms mk E V K U d w' :=
  ⟨h.bK.grows hg, h.bU.grows hg, h.bR.grows hg, h.bW.grows hg, h.rows.grows hg, h.under.grows hg, h.known.grows hg, h.kok, h.n1, h.n2, h.n3⟩
theorem DpS.turnU (h : DpS B gK gU gR gW m ms mk E V K U d w) (ht : Turns (fun i => i = ms) w w' (fun i => i = ms)) (hs : Se w' ms U') : DpS B gK gU gR gW m ms mk E V K U' d w' :=
  ⟨ht.at h.bK (h.bK.no_map h.under.map), ht.at h.bU (h.bU.no_map h.under.map), ht.at h.bR (h.bR.no_map h.under.map), ht.at h.bW (h.bW.no_map h.under.map), h.rows.same (ht.block m h.rows.map.lt h.n1) (fun n b hb => ht.block b (own_typed (h.rows.row n) hb).choose_spec.2.2 (own_no_map (h.rows.row n) h.under.map hb)), hs, h.known.same (ht.block mk h.known.lt h.n2), h.kok, h.n1, h.n2, h.n3⟩
theorem DpS.turnK (h : DpS B gK gU gR gW m ms mk E V K U d w) {n : Nm} (hn : n.ok) {long : Nat} (ht : Turns (fun i => i = mk) w w' (fun i => i = mk)) (hs : Mp Try.prog 24 w' mk (upd (fT K fun n => .int .i64 ((d n : Nat) : Int)) n.lit (.int .i64 (long : Int)))) :
    DpS B gK gU gR gW m ms mk E V (n :: K) U (fun x => if x = n then long else d x) w' := by
  refine ⟨ht.at h.bK (h.bK.no_map h.known), ht.at h.bU (h.bU.no_map h.known), ht.at h.bR (h.bR.no_map h.known), ht.at h.bW (h.bW.no_map h.known), h.rows.same (ht.block m h.rows.map.lt h.n3) (fun n b hb => ht.block b (own_typed (h.rows.row n) hb).choose_spec.2.2 (own_no_map (h.rows.row n) h.known hb)), h.under.same (ht.block ms h.under.map.lt (Ne.symm h.n2)), ?_, fun z hz => ?_, h.n1, h.n2, h.n3⟩
  · rwa [fT_upd _ _ (fun z => .int .i64 (((if z = n then long else d z : Nat)) : Int)) (by rw [if_pos rfl]) (fun y hy => by rw [if_neg hy])] at hs
  · rcases List.mem_cons.1 hz with rfl | hz
    · exact hn
    · exact h.kok z hz
end
def two (a b : Nat) : Nat → Prop := fun i => i = a ∨ i = b
theorem Turns.left {a b : Nat} {w0 w w' : World} (h : Turns (two a b) w0 w (two a b)) (k : Turns (fun i => i = a) w w' (fun i => i = a)) : Turns (two a b) w0 w' (two a b) := h.trans (k.wide (fun _ h => .inl h) (fun _ h => .inr h))
theorem Turns.right {a b : Nat} {w0 w w' : World} (h : Turns (two a b) w0 w (two a b)) (k : Turns (fun i => i = b) w w' (fun i => i = b)) : Turns (two a b) w0 w' (two a b) := h.trans (k.wide (fun _ h => .inr h) (fun _ h => .inr h))
def DpPost (B gK gU gR gW m ms mk : Nat) (E : List Ed) (V : Nm → Value) (W : World) (n : Nm) (K U : List Nm) (d : Nm → Nat) (e : Ending) (w' : World) : Prop :=
  Turns (two ms mk) W w' (two ms mk) ∧ ((e = .returned (.int .i64 (-1)) ∧ (∃ x, Reach E x x)) ∨
  ∃ K' U' d', e = .returned (.int .i64 ((d' n : Nat) : Int)) ∧ n ∈ K' ∧ DpS B gK gU gR gW m ms mk E V K' U' d' w' ∧ Wlk E K U d K' U' d')
theorem zint (W : World) : (zeroValue 3).run Try.prog W = .ok (.int .i64 0) W := by kernel_rfl
set_option maxHeartbeats 8000000 in
theorem deep1_any (B gK gU gR gW m ms mk : Nat) (E : List Ed) (hE : E.length ≤ 200) (V : Nm → Value) : ∀ (k : Nat) (K U : List Nm) (d : Nm → Nat) (W : World) (n : Nm), n.ok → n ∈ nodes E → DpS B gK gU gR gW m ms mk E V K U d W → Inv E K U d → (∀ x ∈ U, x ∉ K → Reach E x n) → 2 * E.length - U.length ≤ k →
    Calls Try.prog 18 #[n.v, ptr gK, ptr gU, ptr gR, ptr gW] W (DpPost B gK gU gR gW m ms mk E V W n K U d) := by
  intro k
  induction k using Nat.strongRecOn with
  | _ k ih =>
  intro K U d W n hn hnod hS hI hst hk
  have HIH := Lib.hid ih
  have HE := Lib.hid hE
  have HK := Lib.hid hk
  have HN := Lib.hid hn
  have HNOD := Lib.hid hnod
  have HI := Lib.hid hI
  have HST := Lib.hid hst
  have HS0 := Lib.hid (hS.grows ((Grows.refl _).alloc (.cells #[.int .i64 n.s, .int .i64 n.i, .int .i64 n.t] 24)))
  have HG0 := Lib.hid ((Turns.refl (two ms mk) W).alloc (.cells #[.int .i64 n.s, .int .i64 n.i, .int .i64 n.t] 24))
  have HBX := Lib.hid (At.new W 24 #[.int .i64 n.s, .int .i64 n.i, .int .i64 n.t])
  have cK := hS.bK.cell 0
  have hlK := hS.bK.lt
  have hlk := HS0.out.known.look_ok nameLaw Try.underlying43 (zint _) (name_key n hn)
  rw [fT_at HS0.out.kok _ hn] at hlk
  clear ih hE hn hnod hS hI hst hk
  by_cases hm : n ∈ K
  · rw [if_pos hm] at hlk
    have hlk' : (Instr.lookup 43 (.map (some mk)) n.v true).run Try.prog (W.alloc (.cells #[.int .i64 n.s, .int .i64 n.i, .int .i64 n.t] 24)) = .ok (.tuple #[.int .i64 ((d n : Nat) : Int), .bool true]) (W.alloc (.cells #[.int .i64 n.s, .int .i64 n.i, .int .i64 n.t] 24)) := hlk
    have HM := Lib.hid hm
    have HF : Hid (DpPost B gK gU gR gW m ms mk E V W n K U d (.returned (.int .i64 ((d n : Nat) : Int))) (W.alloc (.cells #[.int .i64 n.s, .int .i64 n.i, .int .i64 n.t] 24))) := Lib.hid ⟨HG0.out, .inr ⟨K, U, d, rfl, HM.out, HS0.out, Wlk.refl HI.out⟩⟩
    clear hlk hm
    unfold Nm.v at hlk' ⊢
    go_enter Try.func18, Try.ntmps18
    go_wp2_with fail
    go_ret
    exact HF.out
  · rw [if_neg hm] at hlk
    have hlk' : (Instr.lookup 43 (.map (some mk)) n.v true).run Try.prog (W.alloc (.cells #[.int .i64 n.s, .int .i64 n.i, .int .i64 n.t] 24)) = .ok (.tuple #[.int .i64 0, .bool false]) (W.alloc (.cells #[.int .i64 n.s, .int .i64 n.i, .int .i64 n.t] 24)) := hlk
    have HM := Lib.hid hm
    have cU := HS0.out.bU.cell 0
    have HADD := Lib.hid (add_any n HN.out U (by have := HI.out.len.1; have := HE.out; omega) ms _ HS0.out.under)
    clear hlk hm
    unfold Nm.v at hlk' HADD ⊢
    go_enter Try.func18, Try.ntmps18
    go_wp2_with fail
    refine HADD.out.mono ?_
    rintro e w2 ⟨hT, ⟨hin, rfl, hse⟩ | ⟨hin, rfl, hse⟩⟩
    · have HF : Hid (DpPost B gK gU gR gW m ms mk E V W n K U d (.returned (.int .i64 (-1))) w2) := Lib.hid ⟨HG0.out.left hT, .inl ⟨rfl, ⟨n, HST.out n hin HM.out⟩⟩⟩
      clear hT hse hin
      go_wp2_with fail
      go_ret
      exact HF.out
    · have HS2 := Lib.hid (HS0.out.turnU hT hse)
      have HG2 := Lib.hid (HG0.out.left hT)
      have HBX2 := Lib.hid (hT.at HBX.out (HBX.out.no_map HS0.out.under.map))
      have HNI := Lib.hid hin
      have HW0 : Hid (Wlk E K (n :: U) d K (n :: U) d) := Lib.hid (Wlk.refl ⟨HI.out.ht, fun x hx => by simp [HI.out.sub x hx], List.nodup_cons.2 ⟨hin, HI.out.nd⟩, HI.out.kd, fun x hx => by
        rcases List.mem_cons.1 hx with rfl | hx
        · exact HNOD.out
        · exact HI.out.nod x hx, HI.out.bd⟩)
      have HUL : Hid (U.length + 1 ≤ 2 * E.length) := Lib.hid (by have := HW0.out.inv.len.1; rwa [List.length_cons] at this)
      have cR := HS2.out.bR.cell 0
      have cX := HBX2.out.cell
      have hlk2 := HS2.out.rows.look HN.out
      obtain ⟨an, cn, hvn, _⟩ := own_slice (HS2.out.rows.row n)
      have HVN := Lib.hid hvn
      rw [hvn] at hlk2
      have HLS : Hid ((suc E n).length ≤ 200) := Lib.hid (Nat.le_trans (suc_len E n) HE.out)
      unfold Nm.v at hlk2
      clear hT hse hin hlk' hlK cK cU hvn
      obtain ⟨ts, hts⟩ : ∃ ts, suc E n = ts := ⟨_, rfl⟩
      rw [hts] at hlk2 HLS
      have HTS := Lib.hid hts
      clear hts
      go_wp2_with fail
      clear hlk2 cR cX
      go_loopg [9, 29] ts.length (fun gh v9 v29 wr => ∃ (j long : Nat) (Kj Uj : List Nm) (dj : Nm → Nat), gh + j = ts.length ∧ v29 = .int .i64 (j : Int) ∧ v9 = .int .i64 (long : Int) ∧ long ≤ 1000 ∧ DpS B gK gU gR gW m ms mk E V Kj Uj dj wr ∧ Wlk E K (n :: U) d Kj Uj dj ∧ Lng ts j dj Kj long ∧ At wr W.heap.size 24 #[.int .i64 n.s, .int .i64 n.i, .int .i64 n.t] ∧ Turns (two ms mk) W wr (two ms mk))
      case atStart => exact ⟨0, 0, K, n :: U, d, by omega, rfl, rfl, by omega, HS2.out, HW0.out, Lng.zero _ _ _, HBX2.out, HG2.out⟩
      case round =>
        obtain ⟨j, long, Kj, Uj, dj, hgj, rfl, rfl, hlg, hS, hW, hL, hX, hg⟩ := hrel
        have HS := Lib.hid hS
        have HW := Lib.hid hW
        have HL := Lib.hid hL
        have HBX3 := Lib.hid hX
        have HG := Lib.hid hg
        clear hS hW hL hX hg
        have hls := HLS.out
        by_cases hlt : j < ts.length
        · have hj1 : (j : Int) < (ts.length : Int) := by omega
          have hrow : Rd wr an (nms ts) := by
            have := HS.out.rows.row n
            rw [HVN.out, HTS.out] at this
            exact Rd.own this
          obtain ⟨gT, oT, rfl, hgT, d0, d1, d2⟩ := cells3 hrow hlt
          have HX := Lib.hid (List.getElem?_eq_getElem hlt)
          have HXE : Hid ((n, ts[j]) ∈ E) := Lib.hid (mem_suc.1 (by rw [HTS.out]; exact List.getElem_mem hlt))
          generalize ts[j] = y at *
          have HYO := Lib.hid ((HS.out.rows.ok _ HXE.out).2)
          have cW := HS.out.bW.cell 0
          have hlW := HS.out.bW.lt
          have HS1 := Lib.hid (HS.out.grows ((Grows.refl _).alloc (.cells #[.int .i64 y.s, .int .i64 y.i, .int .i64 y.t] 24)))
          have HG1 := Lib.hid (HG.out.alloc (.cells #[.int .i64 y.s, .int .i64 y.i, .int .i64 y.t] 24))
          have HX1 := Lib.hid (HBX3.out.alloc (.cells #[.int .i64 y.s, .int .i64 y.i, .int .i64 y.t] 24))
          have hlen : U.length + 1 ≤ Uj.length := by
            have := nodup_le (n :: U) Uj HW0.out.inv.nd HW.out.under
            rwa [List.length_cons] at this
          have HREC := Lib.hid (HIH.out (2 * E.length - Uj.length) (by have := HK.out; have := HUL.out; omega) Kj Uj dj _ y HYO.out (mem_nodes HXE.out).2 HS1.out HW.out.inv (fun x hx hxk => by
            obtain ⟨h1, h2⟩ := (HW.out.same x).1 ⟨hx, hxk⟩
            rcases List.mem_cons.1 h1 with rfl | h1
            · exact .one HXE.out
            · exact (HST.out x h1 h2).snoc HXE.out) (Nat.le_refl _))
          unfold Nm.v at HREC
          clear hrow hgT hlen
          go_wp2_with fail
          refine HREC.out.mono ?_
          rintro e w6 ⟨hT6, ⟨rfl, hcy⟩ | ⟨K6, U6, d6, rfl, hy6, hS6, hW6⟩⟩
          · have HF : Hid (DpPost B gK gU gR gW m ms mk E V W n K U d (.returned (.int .i64 (-1))) w6) := Lib.hid ⟨HG1.out.trans hT6, .inl ⟨rfl, hcy⟩⟩
            clear hT6 hcy d0 d1 d2 cW hlW
            go_wp2_with fail
            go_ret
            exact HF.out
          · have HS6 := Lib.hid hS6
            have HW6 := Lib.hid (HW.out.trans hW6)
            have HG6 := Lib.hid (HG1.out.trans hT6)
            have HX6 := Lib.hid (hT6.at HX1.out (fun e => by
              rcases e with e | e
              · exact HX1.out.no_map HS1.out.under.map e
              · exact HX1.out.no_map HS1.out.known e))
            have HL6 := Lib.hid ((HL.out.old hW6.old).next HX.out hy6)
            have hbd := hW6.inv.bd y hy6
            have hkl := hW6.inv.len.2
            have hz := HE.out
            have hw : IntKind.i64.wrap (((d6 y : Nat) : Int) + 1) = ((d6 y : Nat) : Int) + 1 := IntWalk.i64_in _ (by omega)
            obtain ⟨z, hz6⟩ : ∃ z, d6 y = z := ⟨_, rfl⟩
            rw [hz6] at HL6 hbd hw ⊢
            have hz1 : z ≤ 400 := by omega
            have hz0 : ¬ ((z : Int) < 0) := by omega
            clear hS6 hW6 hT6 hy6 hbd hkl hz6 hz d0 d1 d2 cW hlW
            go_wp2_with fail
            all_goals
              go_roundg (gk - 1)
              case measure => omega
              case rel => exact ⟨j + 1, max long (z + 1), K6, U6, d6, by omega, by go_num, congrArg (Value.int .i64) (by omega), by omega, HS6.out, HW6.out, HL6.out, HX6.out, HG6.out⟩
        · have hge : ¬ (j : Int) < (ts.length : Int) := by omega
          obtain rfl : j = ts.length := by omega
          have cK := HS.out.bK.cell 0
          have cX := HBX3.out.cell
          have HNK := Lib.hid (HW.out.notK HNI.out HI.out.sub)
          have hkl := HW.out.inv.len.2
          have hz := HE.out
          obtain ⟨w7, hrun, hmp, ht⟩ := HS.out.known.store nameLaw Try.underlying43 (Kj.map Nm.lit) fT_mem (by simp [maxLen]; omega) (name_key n HN.out) (v := .int .i64 (long : Int))
          have hS7 := HS.out.turnK HN.out (mapTurned_turns ht) hmp
          have hW7 := HW.out.close HNI.out HNK.out (by rw [HTS.out]; exact HL.out)
          have HF : Hid (DpPost B gK gU gR gW m ms mk E V W n K U d (.returned (.int .i64 (long : Int))) w7) := Lib.hid ⟨HG.out.right (mapTurned_turns ht), .inr ⟨n :: Kj, Uj, _, by rw [if_pos rfl], by simp, hS7, hW7⟩⟩
          clear hmp ht hS7 hW7 hkl hz hlt
          unfold Nm.v at hrun
          go_wp2_with fail
          go_ret
          exact HF.out
end Go.Proofs.Ytpllcjggjjapoaa
