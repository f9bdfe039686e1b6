/-
  route.Owned.
-/
import Derived.Test.YtmoploenbppdbaaRtA
import Derived.Test.YtmoploenbppdbaaBits
namespace Go.Proofs.Ytmoploenbppdbaa
open Go.RowKit

def bitsOf : List Bool → Nat
  | [] => 0
  | b :: bs => b.toNat + 2 * bitsOf bs
def ownB (M : List Int) (k : Int) : Nat := bitsOf (M.map (fun s => s == k))
theorem bitsOf_lt : ∀ l : List Bool, bitsOf l < 2 ^ l.length
  | [] => by simp [bitsOf]
  | b :: bs => by
    have := bitsOf_lt bs
    have hb : b.toNat ≤ 1 := by cases b <;> simp
    rw [bitsOf, List.length_cons, Nat.pow_succ]
    omega
theorem bitsOf_snoc : ∀ (l : List Bool) (b : Bool), bitsOf (l ++ [b]) = bitsOf l + 2 ^ l.length * b.toNat
  | [], b => by simp [bitsOf]
  | x :: l, b => by
    rw [List.cons_append, bitsOf, bitsOf_snoc l b, bitsOf, List.length_cons, Nat.pow_succ, Nat.mul_add, Nat.mul_comm (2 ^ l.length) 2, Nat.mul_assoc]
    omega
theorem own_snoc {M : List Int} {k : Nat} (h : k < M.length) (x : Int) : bitsOf ((M.take (k + 1)).map (fun s => s == x)) = bitsOf ((M.take k).map (fun s => s == x)) + 2 ^ k * (M.getD k 0 == x).toNat := by
  rw [List.take_succ_eq_append_getElem h, List.map_append, List.map_singleton, bitsOf_snoc]
  simp [List.getElem?_eq_getElem h, Nat.min_eq_left (Nat.le_of_lt h)]

set_option maxHeartbeats 1000000 in
theorem owned_any (o0 o1 o2 o3 o4 o5 o6 o7 : Int) (M : List Int) (hM : [o0, o1, o2, o3, o4, o5, o6, o7] = M) (x : Int) (w : World) :
    Calls Try.prog 10 #[.agg #[.int .i64 o0, .int .i64 o1, .int .i64 o2, .int .i64 o3, .int .i64 o4, .int .i64 o5, .int .i64 o6, .int .i64 o7], .int .i64 x] w fun e w' => e = .returned (.int .i64 ((ownB M x : Nat) : Int)) ∧ Grows w w' := by
  have h8 : M.length = 8 := by rw [← hM]; rfl
  have hix : ∀ (k : Nat) (W : World), k < 8 → (Instr.index 22 (.agg #[.int .i64 o0, .int .i64 o1, .int .i64 o2, .int .i64 o3, .int .i64 o4, .int .i64 o5, .int .i64 o6, .int .i64 o7]) (.int .i64 (k : Int))).run Try.prog W = .ok (.int .i64 (M.getD k 0)) W := fun k W hk => by rw [← hM]; exact idx8 o0 o1 o2 o3 o4 o5 o6 o7 k hk W
  have HX := Lib.hid hix
  have H8 := Lib.hid h8
  clear hM hix h8
  go_enter Try.func10, Try.ntmps10
  go_wp2_with fail
  go_loopg [5, 9] 8 (fun gh t i wr => ∃ (k : Nat), k + gh = 8 ∧ i = .int .i64 (k : Int) ∧ t = .int .i64 ((bitsOf ((M.take k).map (fun s => s == x)) : Nat) : Int) ∧ Grows w wr)
  case atStart => exact ⟨0, by omega, rfl, rfl, (Grows.refl _).alloc _⟩
  case round =>
    obtain ⟨k, hk, rfl, rfl, hg⟩ := hrel
    by_cases hlt : k < 8
    · have HD := own_snoc (M := M) (k := k) (by rw [H8.out]; exact hlt) x
      have hbl := bitsOf_lt ((M.take k).map (fun s => s == x))
      simp only [List.length_map, List.length_take, H8.out, Nat.min_eq_left (Nat.le_of_lt hlt)] at hbl
      have hix := fun W => HX.out k W hlt
      generalize M.getD k 0 = s at *
      have hlt' : (k : Int) < 8 := by omega
      have hk0 : (0 : Int) ≤ (k : Int) := by omega
      have HD := Lib.hid HD
      have HBL := Lib.hid hbl
      clear hbl
      generalize bitsOf ((M.take k).map (fun s => s == x)) = B at *
      by_cases hs : s = x
      · have hs' : (s == x) = true := by simpa using hs
        have HV := Lib.hid (or_bit B k HBL.out (by omega))
        clear hs
        rw [hs'] at HD
        go_wp2_with fail
        go_roundg (gk - 1)
        case measure => omega
        case rel => exact ⟨k + 1, by omega, by go_num, by rw [HD.out, HV.out]; simp, hg⟩
      · have hs' : (s == x) = false := by simpa using hs
        clear hs
        rw [hs'] at HD
        go_wp2_with fail
        go_roundg (gk - 1)
        case measure => omega
        case rel => exact ⟨k + 1, by omega, by go_num, by rw [HD.out]; simp, hg⟩
    · obtain rfl : k = 8 := by omega
      have HF : Hid (ownB M x = bitsOf ((M.take 8).map (fun s => s == x))) := by show _ = _; rw [List.take_of_length_le (by rw [H8.out]; exact Nat.le_refl _)]; rfl
      go_wp2_with fail
      go_ret
      exact ⟨by rw [HF.out]; rfl, hg⟩
end Go.Proofs.Ytmoploenbppdbaa
