/-
  RouteOnce's walk.
-/
import Derived.Test.YtmoploenbppdbaaRtG
namespace Go.Proofs.Ytmoploenbppdbaa
open Go.RowKit

theorem stripe_any (b : Nat) (hb : b < 32) (w : World) : Calls Try.prog 11 #[.int .i64 (b : Int)] w fun e w' => e = .returned (.tuple #[.int .i64 ((b / 4 : Nat) : Int), .int .i64 0]) ∧ w = w' := by
  have h1 : ¬ (b : Int) < 0 := by omega
  have h2 : ¬ (32 : Int) ≤ (b : Int) := by omega
  go_enter Try.func11, Try.ntmps11
  go_wp2_with fail
  go_ret2
  exact ⟨rfl, rfl⟩
set_option maxHeartbeats 1000000 in
theorem shard_any (o0 o1 o2 o3 o4 o5 o6 o7 : Int) (M : List Int) (hM : [o0, o1, o2, o3, o4, o5, o6, o7] = M) (hok : okR M = true) (b : Nat) (hb : b < 32) (w : World) :
    Calls Try.prog 12 #[.agg #[.int .i64 o0, .int .i64 o1, .int .i64 o2, .int .i64 o3, .int .i64 o4, .int .i64 o5, .int .i64 o6, .int .i64 o7], .int .i64 (b : Int)] w fun e w' => e = .returned (.tuple #[.int .i64 (M.getD (b / 4) 0), .int .i64 0]) ∧ Grows w w' := by
  have hc := (At.new w 22 #[.int .i64 o0, .int .i64 o1, .int .i64 o2, .int .i64 o3, .int .i64 o4, .int .i64 o5, .int .i64 o6, .int .i64 o7]).cell (b / 4)
  rw [lit8 o0 o1 o2 o3 o4 o5 o6 o7 (b / 4) (by omega), hM] at hc
  have h8 : M.length = 8 := by rw [← hM]; rfl
  have hs : isS (M.getD (b / 4) 0) = true := by
    apply List.all_eq_true.1 hok
    rw [List.getD_eq_getElem?_getD, List.getElem?_eq_getElem (show b / 4 < M.length by omega)]
    exact List.getElem_mem _
  generalize M.getD (b / 4) 0 = s at *
  have hq : ((b / 4 : Nat) : Int) < 8 := by omega
  have hq0 : (0 : Int) ≤ ((b / 4 : Nat) : Int) := by omega
  clear hM hok h8
  go_enter Try.func12, Try.ntmps12
  go_wp2_with fail
  refine (stripe_any b hb _).mono ?_
  generalize b / 4 = q at *
  rintro e w1 ⟨rfl, rfl⟩
  go_wp2_with fail
  refine (shardIs_any _ _).mono ?_
  rw [hs]
  rintro e w1 ⟨rfl, rfl⟩
  go_wp2_with fail
  go_ret2
  exact ⟨rfl, (Grows.refl _).alloc _⟩

theorem bitsOf_test (l : List Bool) (j : Nat) : (bitsOf l).testBit j = l.getD j false := by
  rw [Nat.testBit_eq_decide_div_mod_eq, bitsOf_at]
  cases l.getD j false <;> rfl
theorem getD_map_dec (M : List Int) (p : Int → Bool) (j : Nat) : (M.map p).getD j false = (match M[j]? with | some s => p s | none => false) := by
  rw [List.getD_eq_getElem?_getD, List.getElem?_map]
  cases M[j]? <;> rfl
theorem bits_and (M : List Int) (p q : Int → Bool) (h : ∀ s, (p s && q s) = false) : bitsOf (M.map p) &&& bitsOf (M.map q) = 0 := by
  apply Nat.eq_of_testBit_eq
  intro j
  rw [Nat.testBit_and, bitsOf_test, bitsOf_test, getD_map_dec, getD_map_dec, Nat.zero_testBit]
  cases M[j]? with
  | none => rfl
  | some s => exact h s
theorem bits_or (M : List Int) (p q r : Int → Bool) (h : ∀ s, (p s || q s) = r s) : bitsOf (M.map p) ||| bitsOf (M.map q) = bitsOf (M.map r) := by
  apply Nat.eq_of_testBit_eq
  intro j
  rw [Nat.testBit_or, bitsOf_test, bitsOf_test, bitsOf_test, getD_map_dec, getD_map_dec, getD_map_dec]
  cases M[j]? with
  | none => rfl
  | some s => exact h s
def belowB (M : List Int) (k : Nat) : Nat := bitsOf (M.map fun s => decide (1 ≤ s ∧ s < (k : Int)))
theorem below_lt (M : List Int) (h8 : M.length = 8) (k : Nat) : belowB M k < 256 := by
  have := bitsOf_lt (M.map fun s => decide (1 ≤ s ∧ s < (k : Int)))
  rwa [List.length_map, h8] at this
theorem below_and (M : List Int) (h8 : M.length = 8) (k : Nat) : bits .and .i64 ((ownB M k : Nat) : Int) ((belowB M k : Nat) : Int) = 0 := by
  rw [and_64 _ _ (by have := own_lt M h8 k; omega) (by have := below_lt M h8 k; omega)]
  have : ownB M k &&& belowB M k = 0 := bits_and M _ _ fun s => by
    rw [Bool.and_eq_false_iff]
    by_cases h : s = (k : Int)
    · right; simp; omega
    · left; simpa using h
  rw [this]
  rfl
theorem below_or (M : List Int) (h8 : M.length = 8) (k : Nat) (hk : 1 ≤ k) : bits .or .i64 ((belowB M k : Nat) : Int) ((ownB M k : Nat) : Int) = ((belowB M (k + 1) : Nat) : Int) := by
  rw [or_64 _ _ (by have := below_lt M h8 k; omega) (by have := own_lt M h8 k; omega)]
  have : belowB M k ||| ownB M k = belowB M (k + 1) := bits_or M _ _ _ fun s => by
    rw [Bool.eq_iff_iff]
    simp
    omega
  rw [this]
theorem below_one (M : List Int) : belowB M 1 = 0 := by
  apply Nat.eq_of_testBit_eq
  intro j
  rw [belowB, bitsOf_test, getD_map_dec, Nat.zero_testBit]
  cases M[j]? with
  | none => rfl
  | some s =>
    show decide (1 ≤ s ∧ s < ((1 : Nat) : Int)) = false
    rw [decide_eq_false_iff_not]
    omega
theorem below_all (M : List Int) (h8 : M.length = 8) (hok : okR M = true) : belowB M 5 = 255 := by
  have : M.map (fun s => decide (1 ≤ s ∧ s < ((5 : Nat) : Int))) = List.replicate 8 true := by
    apply List.ext_getElem
    · simp [h8]
    · intro i h1 h2
      have hi : i < M.length := by simpa using h1
      have := isS_bd (List.all_eq_true.1 hok M[i] (List.getElem_mem hi))
      rw [List.getElem_map, List.getElem_replicate, decide_eq_true_eq]
      omega
  rw [belowB, this]
  rfl

set_option maxRecDepth 100000 in
set_option maxHeartbeats 4000000 in
theorem once_walk (o0 o1 o2 o3 o4 o5 o6 o7 : Int) (w : World) :
    Calls Try.prog 5 #[.agg #[.int .i64 o0, .int .i64 o1, .int .i64 o2, .int .i64 o3, .int .i64 o4, .int .i64 o5, .int .i64 o6, .int .i64 o7]] w fun e w' => e = .returned (.bool true) ∧ Grows w w' := by
  have HMay := Lib.hid (fun W => may_any o0 o1 o2 o3 o4 o5 o6 o7 _ rfl W)
  have G0 := (Grows.refl w).alloc (.cells #[.int .i64 o0, .int .i64 o1, .int .i64 o2, .int .i64 o3, .int .i64 o4, .int .i64 o5, .int .i64 o6, .int .i64 o7] 22)
  have M0 := Lib.hid (At.new w 22 #[.int .i64 o0, .int .i64 o1, .int .i64 o2, .int .i64 o3, .int .i64 o4, .int .i64 o5, .int .i64 o6, .int .i64 o7])
  cases hR : okR [o0, o1, o2, o3, o4, o5, o6, o7] with
  | false =>
    rw [hR] at HMay
    go_enter Try.func5, Try.ntmps5
    go_wp2_with fail
    refine (HMay.out _).mono ?_
    rintro e w1 ⟨rfl, hb1⟩
    go_wp2_with fail
    refine (wakes_any _).mono ?_
    rintro e w2 ⟨rfl, hb2⟩
    go_wp2_with fail
    go_ret
    exact ⟨rfl, (G0.trans hb1).trans hb2⟩
  | true =>
    rw [hR] at HMay
    have HOwn := Lib.hid (fun (k : Nat) W => owned_any o0 o1 o2 o3 o4 o5 o6 o7 _ rfl (k : Int) W)
    have HSh := Lib.hid (fun b hb W => shard_any o0 o1 o2 o3 o4 o5 o6 o7 _ rfl hR b hb W)
    have h8 : [o0, o1, o2, o3, o4, o5, o6, o7].length = 8 := rfl
    generalize [o0, o1, o2, o3, o4, o5, o6, o7] = M at *
    have H8 := Lib.hid h8
    have HR := Lib.hid hR
    clear hR h8
    go_enter Try.func5, Try.ntmps5
    go_wp2_with fail
    refine (HMay.out _).mono ?_
    rintro e w1 ⟨rfl, hb1⟩
    have M1 := Lib.hid (M0.out.grows hb1)
    have G1 := G0.trans hb1
    go_wp2_with fail
    go_loopg [3, 4] 4 (fun gh t i wr => ∃ (k : Nat), k + gh = 5 ∧ 1 ≤ k ∧ i = .int .i64 (k : Int) ∧ t = .int .i64 ((belowB M k : Nat) : Int) ∧ Grows w1 wr)
    case atStart => exact ⟨1, by omega, by omega, rfl, by rw [below_one]; rfl, Grows.refl _⟩
    case round =>
      obtain ⟨k, hk, hk1, rfl, rfl, hg⟩ := hrel
      by_cases hlt : k ≤ 4
      · have hlt' : (k : Int) ≤ 4 := by omega
        have cm := (M1.out.grows hg).cell
        have HAnd := below_and M H8.out k
        have HOr := below_or M H8.out k hk1
        have hbl := below_lt M H8.out k
        have hol := own_lt M H8.out k
        have HOwk := Lib.hid (HOwn.out k)
        have HAt := Lib.hid (fun j (hj : j < 8) => own_at (M := M) (k : Int) j (by rw [H8.out]; exact hj))
        generalize hA1 : belowB M (k + 1) = A1 at *
        have HA1 := Lib.hid hA1
        clear hA1
        generalize belowB M k = A at *
        generalize ownB M k = B at *
        obtain ⟨go, hgo⟩ : ∃ go : Nat, go = gk := ⟨_, rfl⟩
        go_wp2_with fail
        refine (HOwk.out _).mono ?_
        rintro e w2 ⟨rfl, hb2⟩
        clear cm
        go_wp2_with fail
        clear HAnd
        obtain ⟨wo, hwo⟩ : ∃ wo : World, wo = wr := ⟨_, rfl⟩
        subst hwo
        subst hgo
        go_loopg [6] 32 (fun gh i wr => ∃ (b : Nat), b + gh = 32 ∧ i = .int .i64 (b : Int) ∧ Grows w1 wr)
        case atStart => exact ⟨0, by omega, rfl, hg.trans hb2⟩
        case round =>
          obtain ⟨b, hb, rfl, hg2⟩ := hrel
          by_cases hlb : b < 32
          · have hlb' : (b : Int) < 32 := by omega
            have cm := (M1.out.grows hg2).cell
            have hat := HAt.out (b / 4) (by omega)
            have HShb := HSh.out b hlb
            generalize M.getD (b / 4) 0 = s at *
            have HShb := Lib.hid HShb
            go_wp2_with fail
            refine (stripe_any b hlb _).mono ?_
            have hq0 : (0 : Int) ≤ ((b / 4 : Nat) : Int) := by omega
            have hq8 : ((b / 4 : Nat) : Int) ≤ 8 := by omega
            generalize b / 4 = q at *
            rintro e w3 ⟨rfl, rfl⟩
            go_wp2_with fail
            refine (HShb.out _).mono ?_
            rintro e w3 ⟨rfl, hb3⟩
            clear cm
            by_cases hs : s = (k : Int)
            · have e1 : (s == (k : Int)) = true := by simpa using hs
              rw [e1] at hat
              have e2 : (bits .and .i64 ((B : Int) / 2 ^ q) 1 == 1) = true := by rw [and_bit B q (by omega), hat]; rfl
              clear hs hat
              go_wp2_with fail
              go_roundg (gk - 1)
              case measure => omega
              case rel => exact ⟨b + 1, by omega, by go_num, hg2.trans hb3⟩
            · have e1 : (s == (k : Int)) = false := by simpa using hs
              rw [e1] at hat
              have e2 : (bits .and .i64 ((B : Int) / 2 ^ q) 1 == 1) = false := by rw [and_bit B q (by omega), hat]; rfl
              clear hs hat
              go_wp2_with fail
              go_roundg (gk - 1)
              case measure => omega
              case rel => exact ⟨b + 1, by omega, by go_num, hg2.trans hb3⟩
          · obtain rfl : b = 32 := by omega
            go_wp2_with fail
            go_roundg (go - 1)
            case measure => omega
            case rel => exact ⟨k + 1, by omega, by omega, by go_num, by rw [HA1.out], hg2⟩
      · obtain rfl : k = 5 := by omega
        rw [below_all M H8.out HR.out]
        go_wp2_with fail
        refine (wakes_any _).mono ?_
        rintro e w2 ⟨rfl, hb2⟩
        go_wp2_with fail
        go_ret
        exact ⟨rfl, (G1.trans hg).trans hb2⟩
end Go.Proofs.Ytmoploenbppdbaa
