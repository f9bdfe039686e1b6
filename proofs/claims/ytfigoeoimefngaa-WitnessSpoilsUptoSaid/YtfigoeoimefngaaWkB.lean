/-
  cashboxref32.Same: of the same faults.
-/
import Derived.Test.YtfigoeoimefngaaWiU
namespace Go.Proofs.Ytfigoeoimefngaa
open Go.RowKit Go.Maps Go.Shelf

set_option maxRecDepth 100000 in
set_option maxHeartbeats 4000000 in
theorem same32_any (fs : List Ft) (hok : ∀ f ∈ fs, f.ok) (n : Nat) (hn : fs.length = n) (hL : n ≤ 1000000) (a a' : Option Addr) (cap cap' : Nat) (w : World) (hr : Rd w a (rowsOf Ft.cs fs)) (hr' : Rd w a' (rowsOf Ft.cs fs)) :
    Calls Try.prog 14 #[.slice a n cap, .slice a' n cap'] w fun e w' => e = .returned (.bool true) ∧ Grows w w' := by
  have HR := Lib.hid hr
  have HR' := Lib.hid hr'
  have HN := Lib.hid hn
  have HNL := Lib.hid hL
  have HOK := Lib.hid hok
  clear hr hr' hn hL hok
  go_enter Try.func14, Try.ntmps14
  go_wp2_with fail
  go_loopg [5] n (fun gk v5 wr => ∃ k : Nat, gk + k = n ∧ v5 = .int .i64 (k : Int) ∧ Grows w wr)
  case atStart => exact ⟨0, by omega, rfl, Grows.refl _⟩
  case round =>
    obtain ⟨k, hk, rfl, hg⟩ := hrel
    have HGW := Lib.hid hg
    clear hg
    by_cases hlt : k < n
    · have hkl : k < fs.length := by rw [HN.out]; exact hlt
      have hfk : fs[k]? = some fs[k] := List.getElem?_eq_getElem hkl
      have HFO := Lib.hid (HOK.out _ (List.mem_of_getElem? hfk))
      obtain ⟨g, off, rfl, hgw, hA⟩ := ld_fault (HR.out.grows HGW.out) HOK.out hfk
      obtain ⟨g', off', rfl, hgw', hA'⟩ := ld_fault (HR'.out.grows HGW.out) HOK.out hfk
      generalize fs[k] = f at *
      have HA : Hid (∀ W, Grows wr W → (loadVar 34 ⟨g, off + k * 28, none⟩).run Try.prog W = .ok (.agg f.cs.toArray) W) := Lib.hid (ld_range hA hgw Try.underlying34 rfl (by rw [Ft.cs_len HFO.out]; exact info_fault))
      have HA' : Hid (∀ W, Grows wr W → (loadVar 34 ⟨g', off' + k * 28, none⟩).run Try.prog W = .ok (.agg f.cs.toArray) W) := Lib.hid (ld_range hA' hgw' Try.underlying34 rfl (by rw [Ft.cs_len HFO.out]; exact info_fault))
      have he := fun W => ft_self HFO.out W
      have hlt' : (k : Int) < (n : Int) := by omega
      have hk0 : (0 : Int) ≤ (k : Int) := by omega
      have hwr : IntKind.i64.wrap ((k : Int) + 1) = (k : Int) + 1 := IntWalk.i64_in _ (by have := HNL.out; omega)
      clear hA hA' hkl hfk hgw hgw'
      generalize f.cs.toArray = F at *
      go_upto_region 6 with (fail)
      refine wp_region_class wr (by kernel_rfl) (by kernel_rfl) (Grows.refl _) ?_
      repeat (first
        | go_big_quiet_skip
        | (go_big_quiet_want; first
            | ((with_reducible refine quiet_load (b := g) (off := off + k * 28) ?_ HA.out ?_); rfl; (simp only [Act.put, List.setIfInBounds_toArray, List.set_cons_zero, List.set_cons_succ]); go_big_quiet_on)
            | ((with_reducible refine quiet_load (b := g') (off := off' + k * 28) ?_ HA'.out ?_); rfl; (simp only [Act.put, List.setIfInBounds_toArray, List.set_cons_zero, List.set_cons_succ]); go_big_quiet_on)
            | (go_big_quiet_op; (first
                | go_big_quiet_on
                | (refine ⟨_, fun _ _ => rfl, ?_⟩; go_big_quiet_on)))))
      refine wpQuiet_nil ?_
      intro w6 hC6
      have HC6 := Lib.hid (HGW.out.trans hC6)
      clear hC6
      go_wp2_with fail
      go_roundg (gk - 1)
      case measure => omega
      exact ⟨k + 1, by omega, rfl, HC6.out⟩
    · have : k = n := by omega
      clear hlt
      go_wp2_with fail
      go_ret
      exact ⟨rfl, HGW.out⟩
end Go.Proofs.Ytfigoeoimefngaa
