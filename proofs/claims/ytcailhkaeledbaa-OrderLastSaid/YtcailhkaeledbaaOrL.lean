/-
  order.Until; the law's step.
-/
import Derived.Test.YtcailhkaeledbaaOrA
import Derived.Test.YtcailhkaeledbaaRes
import Derived.WalkLawsBesides
namespace Go.Proofs.Ytcailhkaeledbaa
open Go.RowKit Go.Maps

def Sn.zero : Sn := ⟨0, Nm.zero, 0, 0, 0, 0, 0, 0, 0, 0, 0, 0⟩
theorem info_sn : (Try.prog.info? 37).map (fun i => (i.zero, i.size, i.bytes)) = some (some (.agg Sn.zero.cs.toArray), 14, 56) := by kernel_rfl
theorem sns_one (l : List Sn) : ∀ u ∈ rowsOf Sn.cs l, u.oneCell' = true := rows_all (fun x u hu => by simp only [Sn.cs, List.mem_cons, List.not_mem_nil, or_false] at hu; rcases hu with rfl | rfl | rfl | rfl | rfl | rfl | rfl | rfl | rfl | rfl | rfl | rfl | rfl | rfl <;> rfl) l
/-- k brought into 0 to n. -/
def cutN (k : Int) (n : Nat) : Nat := (max 0 (min k n)).toNat
theorem cutN_le (k : Int) (n : Nat) : cutN k n ≤ n := by unfold cutN; omega
def UntP (L : List Sn) (c : Nat) (w : World) (e : Ending) (w' : World) : Prop := ∃ a' c', e = .returned (.slice a' c c') ∧ Rd w' a' (rowsOf Sn.cs (L.take c)) ∧ c ≤ c' ∧ Grows w w'
set_option maxHeartbeats 1000000 in
theorem until_c (L : List Sn) (n : Nat) (hL : n ≤ 1000000) (a : Option Addr) (cap : Nat) (hc : n ≤ cap) (hnil : a = none → n = 0 ∧ cap = 0) (k : Int) (c : Nat) (hcc : cutN k n = c) (hcn : c ≤ n) (w : World) (hrd : Rd w a (rowsOf Sn.cs (L.take c))) (hlen : (L.take c).length = c) :
    Calls Try.prog 8 #[.slice a n cap, .int .i64 k] w (UntP L c w) := by
  obtain ⟨i0, hi0, hz0, hz1, hz2⟩ := info_parts info_sn
  have HR := Lib.hid hrd
  have HL := Lib.hid hlen
  have HCN := Lib.hid hcn
  have HL6 := Lib.hid hL
  clear hrd hlen
  by_cases hc0 : c = 0
  · subst hc0
    have hneg : (max 0 (min k (n : Int))) = 0 := by unfold cutN at hcc; omega
    have HNEG := Lib.hid hneg
    clear hcc hcn hneg HL6
    have hend : UntP L 0 w (.returned (.slice none 0 0)) w := ⟨none, 0, rfl, by rw [List.take_zero]; exact Rd.nil _ _, Nat.le_refl _, Grows.refl _⟩
    have HE := Lib.hid hend
    clear hend
    rcases a with _ | ad
    · obtain ⟨rfl, rfl⟩ := hnil rfl
      by_cases h1 : k < 0
      · go_enter Try.func8, Try.ntmps8
        go_wp2_with fail
        go_ret
        exact HE.out
      · go_enter Try.func8, Try.ntmps8
        go_wp2_with fail
        all_goals
          go_ret
          exact HE.out
    · clear hnil
      by_cases h1 : k < 0
      · go_enter Try.func8, Try.ntmps8
        go_wp2_with fail
        go_ret
        exact HE.out
      · by_cases hk : k = 0
        · subst hk
          go_enter Try.func8, Try.ntmps8
          go_wp2_with fail
          go_ret
          exact HE.out
        · have hn0 : n = 0 := by have := HNEG.out; omega
          subst hn0
          have h2 : 0 < k := by omega
          clear hk h1
          go_enter Try.func8, Try.ntmps8
          go_wp2_with fail
          go_ret
          exact HE.out
  · have hp : 0 < c := by omega
    clear hc0
    rcases a with _ | ad
    · obtain ⟨rfl, rfl⟩ := hnil rfl
      omega
    clear hnil
    by_cases h2 : k ≤ (n : Int)
    · obtain ⟨k, rfl⟩ : ∃ k' : Nat, k = (k' : Int) := ⟨k.toNat, by unfold cutN at hcc; omega⟩
      have hkc : c = k := by unfold cutN at hcc; omega
      subst hkc
      clear hcc h2
      go_enter Try.func8, Try.ntmps8
      go_wp2_with (at_builtin; refine wpList_append_rd _ rfl (.const (.slice none 0 0)) (.tmp 12) 22 rfl w.heap.size 37 i0 _ 14 56 Try.underlying22 hi0 hz0 hz1 hz2 rfl (by decide) (.slice none 0 0) 0 [] rfl (World.ownsRow_nil _ _ _ _) _ _ _ (rowsOf Sn.cs (L.take c)) rfl HR.out ?q1 ?q2 ?q3 ?q4 ?q5 ?_)
      case q1 => rw [rows_length Sn.cs_len, HL.out]
      case q2 => exact sns_one _
      case q3 => unfold maxLen; have := HCN.out; have := HL6.out; omega
      case q4 => have := HCN.out; have := HL6.out; omega
      case q5 => exact Nat.le_refl _
      intro v' w1 hown hgr _
      have HO := Lib.hid hown
      have HG := Lib.hid ((Grows.refl w).grown hgr (fun _ h => by cases h))
      clear hown hgr
      go_wp2_with fail
      go_ret
      obtain ⟨a', c', rfl, hcap, _⟩ := own_slice HO.out
      exact ⟨a', c', rfl, Rd.own HO.out, hcap, HG.out⟩
    · have hkc : c = n := by unfold cutN at hcc; omega
      subst hkc
      clear hcc hcn
      have h3 : (c : Int) < k := by omega
      clear h2
      go_enter Try.func8, Try.ntmps8
      go_wp2_with (at_builtin; refine wpList_append_rd _ rfl (.const (.slice none 0 0)) (.tmp 12) 22 rfl w.heap.size 37 i0 _ 14 56 Try.underlying22 hi0 hz0 hz1 hz2 rfl (by decide) (.slice none 0 0) 0 [] rfl (World.ownsRow_nil _ _ _ _) _ _ _ (rowsOf Sn.cs (L.take c)) rfl HR.out ?q1 ?q2 ?q3 ?q4 ?q5 ?_)
      case q1 => rw [rows_length Sn.cs_len, HL.out]
      case q2 => exact sns_one _
      case q3 => unfold maxLen; have := HCN.out; have := HL6.out; omega
      case q4 => have := HCN.out; have := HL6.out; omega
      case q5 => exact Nat.le_refl _
      intro v' w1 hown hgr _
      have HO := Lib.hid hown
      have HG := Lib.hid ((Grows.refl w).grown hgr (fun _ h => by cases h))
      clear hown hgr
      go_wp2_with fail
      go_ret
      obtain ⟨a', c', rfl, hcap, _⟩ := own_slice HO.out
      exact ⟨a', c', rfl, Rd.own HO.out, hcap, HG.out⟩
theorem until_any (L : List Sn) (n : Nat) (hn : L.length = n) (hL : n ≤ 1000000) (a : Option Addr) (cap : Nat) (hc : n ≤ cap) (hnil : a = none → n = 0 ∧ cap = 0) (k : Int) (w : World) (hr : Rd w a (rowsOf Sn.cs L)) :
    Calls Try.prog 8 #[.slice a n cap, .int .i64 k] w (UntP L (cutN k n) w) := by
  have hcn := cutN_le k n
  refine until_c L n hL a cap hc hnil k _ rfl hcn w ?_ (by rw [List.length_take]; omega)
  rw [rows_take Sn.cs_len L _ (by omega)]
  exact rd_take hr _

theorem zseen (W : World) : (zeroValue 37).run Try.prog W = .ok (.agg Sn.zero.cs.toArray) W := by kernel_rfl
theorem lstep_any (k n : Int) (w : World) : Calls Try.prog 15 #[.int .i8 k, .int .i64 n] w fun e w' => e = .returned (.agg (Sn.mk k ⟨n, 1, 1⟩ 0 0 0 0 0 0 0 0 0 0).cs.toArray) ∧ Grows w w' := by
  have hz := zseen
  unfold Sn.zero Nm.zero Sn.cs at hz
  unfold Sn.cs
  go_enter Try.func15, Try.ntmps15
  go_wp2_with fail
  refine bodyPost_ret (results_cell_row Try.results15 _ _ w.heap.size 37 _ (0, 0) _ rfl (At.new w 37 #[.int .i8 k, .int .i64 n, .int .i64 1, .int .i64 1, .int .i64 0, .int .u8 0, .int .u8 0, .int .u8 0, .int .u8 0, .int .u8 0, .int .u8 0, .int .u8 0, .int .u8 0, .int .i64 0]) Try.underlying37 rfl (by kernel_rfl)) rfl ⟨rfl, (Grows.refl _).alloc _⟩
end Go.Proofs.Ytcailhkaeledbaa
