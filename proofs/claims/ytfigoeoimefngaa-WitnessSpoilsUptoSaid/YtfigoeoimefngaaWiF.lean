/-
  witness.view.kind.
-/
import Derived.Test.YtfigoeoimefngaaWiD
import Derived.Test.YtfigoeoimefngaaWiE
import Derived.Test.YtfigoeoimefngaaZb
import Derived.Test.YtfigoeoimefngaaZa
import Derived.BigQuiet
import Derived.WalkMore
import Derived.RegionTactic
namespace Go.Proofs.Ytfigoeoimefngaa
open Go.RowKit Go.Maps

theorem kinds8 : ∀ (n : Nat) (l : List Int), l.length = n → OfKinds (List.replicate n (some .u8)) (ivs l)
  | 0, [], _ => trivial
  | n + 1, z :: l, h => ⟨⟨z, rfl⟩, kinds8 n l (by simpa using h)⟩
theorem flatV : flatQ Try.prog 3 31 = some (List.replicate 8 (some .u8)) := by kernel_rfl
set_option maxRecDepth 100000 in
theorem mkVv : ∀ cs, mkV Try.prog 31 cs = .agg cs.toArray := fun cs => by unfold mkV; rw [Try.underlying31]
theorem ivs_inj {a b : List Int} (h : ivs a = ivs b) : a = b := by
  unfold ivs at h
  exact (List.map_inj_right (fun x y e => by injection e)).1 h
set_option maxRecDepth 100000 in
theorem eq8_any (W : World) (a b : List Int) (ha : a.length = 8) (hb : b.length = 8) : (Op.equalIn 10000 31 (.agg (ivs a).toArray) (.agg (ivs b).toArray)).run Try.prog W = .ok (decide (a = b)) W := by
  have := eq_flat_agg (P := Try.prog) W 3 31 _ flatV (by omega) mkVv _ _ (kinds8 8 a ha) (kinds8 8 b hb)
  rw [this]
  congr 1
  rw [Bool.eq_iff_iff, cellsEq_iff (kinds8 8 a ha) (kinds8 8 b hb), decide_eq_true_eq]
  exact ⟨ivs_inj, fun h => by rw [h]⟩
def kindF (D : List Nm) (f : Ft) : Int :=
  if f.was = Nm.zero then (if f.got = [0, 0, 0, 0, 0, 0, 0, 0] then 0 else 4)
  else if f.was = f.n then 3 else if rk D f.was = 0 then 2 else if rk D f.was < rk D f.n then 0 else 1
def RankAt (w : World) (r : Nat) (D : List Nm) : Prop := KM Try.prog 29 Nm.ok Nm.lit (.int .i64 0) w r D.length (fun n => .int .i64 (rk D n : Nat))
set_option maxRecDepth 100000 in
set_option maxHeartbeats 8000000 in
theorem kind_any (D : List Nm) (f : Ft) (hf : f.ok) (ho : f.n.ok ∧ f.was.ok) (a : Option Addr) (n cap : Nat) (a' : Option Addr) (d c' r : Nat) (w : World) (hr : RankAt w r D) :
    Calls Try.prog 37 #[.agg (vwv a n cap a' d c' r).toArray, .agg f.cs.toArray] w fun e w' => e = .returned (.int .i8 (kindF D f)) ∧ Grows w w' := by
  obtain ⟨p, x, b, want, got, sh, y, k⟩ := f
  obtain ⟨w0, w1, w2, w3, w4, w5, w6, w7, rfl⟩ := eight_of hf.want
  obtain ⟨g0, g1, g2, g3, g4, g5, g6, g7, rfl⟩ := eight_of hf.got
  obtain ⟨ho1, ho2⟩ := ho
  simp only at ho1 ho2
  have hl1 : ∀ W, Grows w W → (Instr.lookup 59 (.map (some r)) y.v false).run Try.prog W = .ok (.int .i64 (rk D y : Nat)) W := fun W hg => (hr.grows hg).look kNm Try.underlying59 (zint W) ho2
  have hl2 : ∀ W, Grows w W → (Instr.lookup 59 (.map (some r)) x.v false).run Try.prog W = .ok (.int .i64 (rk D x : Nat)) W := fun W hg => (hr.grows hg).look kNm Try.underlying59 (zint W) ho1
  have he1 : ∀ W, (Op.equalIn 10000 29 (.agg #[.int .i64 y.s, .int .i64 y.i, .int .i64 y.t]) (.agg #[.int .i64 0, .int .i64 0, .int .i64 0])).run Try.prog W = .ok (decide (y = Nm.zero)) W := fun W => eqn_any W y Nm.zero
  have he2 : ∀ W, (Op.equalIn 10000 29 (.agg #[.int .i64 y.s, .int .i64 y.i, .int .i64 y.t]) (.agg #[.int .i64 x.s, .int .i64 x.i, .int .i64 x.t])).run Try.prog W = .ok (decide (y = x)) W := fun W => eqn_any W y x
  have he3 : ∀ W, (Op.equalIn 10000 31 (.agg #[.int .u8 g0, .int .u8 g1, .int .u8 g2, .int .u8 g3, .int .u8 g4, .int .u8 g5, .int .u8 g6, .int .u8 g7]) (.agg #[.int .u8 0, .int .u8 0, .int .u8 0, .int .u8 0, .int .u8 0, .int .u8 0, .int .u8 0, .int .u8 0])).run Try.prog W = .ok (decide ([g0, g1, g2, g3, g4, g5, g6, g7] = [0, 0, 0, 0, 0, 0, 0, 0])) W := fun W => eq8_any W [g0, g1, g2, g3, g4, g5, g6, g7] [0, 0, 0, 0, 0, 0, 0, 0] rfl rfl
  unfold Nm.v at hl1 hl2
  obtain ⟨ry, hry⟩ : ∃ z, rk D y = z := ⟨_, rfl⟩
  obtain ⟨rx, hrx⟩ : ∃ z, rk D x = z := ⟨_, rfl⟩
  rw [hry] at hl1
  rw [hrx] at hl2
  have HK : Hid (kindF D ⟨p, x, b, [w0, w1, w2, w3, w4, w5, w6, w7], [g0, g1, g2, g3, g4, g5, g6, g7], sh, y, k⟩ = if y = Nm.zero then (if [g0, g1, g2, g3, g4, g5, g6, g7] = [0, 0, 0, 0, 0, 0, 0, 0] then 0 else 4) else if y = x then 3 else if ry = 0 then 2 else if ry < rx then 0 else 1) := Lib.hid (by unfold kindF; simp only [hry, hrx])
  clear hr hry hrx hf ho1 ho2
  have hgW : Grows w ((w.alloc (.cells #[.slice a n cap, .slice a' d c', .map (some r), .map (some (r + 1)), .map (some (r + 2))] 63)).alloc (.cells #[.int .i64 (p : Int), .int .i64 x.s, .int .i64 x.i, .int .i64 x.t, .int .i64 b, .int .u8 w0, .int .u8 w1, .int .u8 w2, .int .u8 w3, .int .u8 w4, .int .u8 w5, .int .u8 w6, .int .u8 w7, .int .u8 g0, .int .u8 g1, .int .u8 g2, .int .u8 g3, .int .u8 g4, .int .u8 g5, .int .u8 g6, .int .u8 g7, .int .i64 sh.s, .int .i64 sh.i, .int .i64 sh.t, .int .i64 y.s, .int .i64 y.i, .int .i64 y.t, .int .i8 k] 34)) := ((Grows.refl _).alloc _).alloc _
  have HGW := Lib.hid hgW
  have HGD := Lib.hid hgW.drew
  have hl1W := hl1 _ hgW
  have hl2W := hl2 _ hgW
  have hl1D := hl1 _ hgW.drew
  have hl2D := hl2 _ hgW.drew
  clear hl1 hl2 hgW
  unfold vwv Ft.cs Nm.cs ivs
  simp only [List.map_cons, List.map_nil, List.cons_append, List.nil_append]
  by_cases h1 : y = Nm.zero
  · rw [decide_eq_true h1] at he1
    by_cases h2 : [g0, g1, g2, g3, g4, g5, g6, g7] = [0, 0, 0, 0, 0, 0, 0, 0]
    · rw [decide_eq_true h2] at he3
      rw [if_pos h1, if_pos h2] at HK
      clear h1 h2
      go_enter Try.func37, Try.ntmps37
      go_wp2_with fail
      go_step3
      go_wp2_with fail
      go_step3
      go_wp2_with fail
      (try rw [Exit.noGoto_ret])
      go_ret
      exact ⟨by rw [HK.out]; rfl, ((Grows.refl _).alloc _).alloc _⟩
    · rw [decide_eq_false h2] at he3
      rw [if_pos h1, if_neg h2] at HK
      clear h1 h2
      go_enter Try.func37, Try.ntmps37
      go_wp2_with fail
      go_step3
      go_wp2_with fail
      go_step3
      go_wp2_with fail
      (try rw [Exit.noGoto_ret])
      go_ret
      exact ⟨by rw [HK.out]; rfl, ((Grows.refl _).alloc _).alloc _⟩
  · rw [if_neg h1] at HK
    rw [decide_eq_false h1] at he1
    by_cases h2 : y = x
    · rw [decide_eq_true h2] at he2
      rw [if_pos h2] at HK
      clear h1 h2
      go_enter Try.func37, Try.ntmps37
      go_wp2_with fail
      go_step3
      go_wp2_with fail
      go_step3
      go_wp2_with fail
      (try rw [Exit.noGoto_ret])
      go_ret
      exact ⟨by rw [HK.out]; rfl, ((Grows.refl _).alloc _).alloc _⟩
    · rw [decide_eq_false h2] at he2
      rw [if_neg h2] at HK
      by_cases h3 : ry = 0
      · have e3 : ((ry : Int) == 0) = true := by simp [h3]
        rw [if_pos h3] at HK
        clear h1 h2
        go_enter Try.func37, Try.ntmps37
        go_wp2_with fail
        go_step3
        go_wp2_with fail
        go_step3
        go_wp2_with fail
        (try rw [Exit.noGoto_ret])
        go_ret
        exact ⟨by rw [HK.out]; rfl, ((Grows.refl _).alloc _).alloc _⟩
      · have e3 : ((ry : Int) == 0) = false := by simp [h3]
        rw [if_neg h3] at HK
        by_cases h4 : ry < rx
        · have e4 : (ry : Int) < (rx : Int) := by omega
          rw [if_pos h4] at HK
          clear h1 h2
          go_enter Try.func37, Try.ntmps37
          go_wp2_with fail
          go_step3
          go_wp2_with fail
          go_step3
          go_wp2_with fail
          go_region
          go_wp2_with fail
          (try rw [Exit.noGoto_ret])
          go_ret
          exact ⟨by rw [HK.out]; rfl, by first | exact HGD.out | exact (((Grows.refl _).alloc _).alloc _).drew⟩
        · have e4 : decide ((ry : Int) < (rx : Int)) = false := decide_eq_false (by omega)
          rw [if_neg h4] at HK
          clear h1 h2
          go_enter Try.func37, Try.ntmps37
          go_wp2_with fail
          go_step3
          go_wp2_with fail
          go_step3
          go_wp2_with fail
          go_region
          go_wp2_with fail
          (try rw [Exit.noGoto_ret])
          go_ret
          exact ⟨by rw [HK.out]; rfl, by first | exact HGD.out | exact (((Grows.refl _).alloc _).alloc _).drew⟩
end Go.Proofs.Ytfigoeoimefngaa
