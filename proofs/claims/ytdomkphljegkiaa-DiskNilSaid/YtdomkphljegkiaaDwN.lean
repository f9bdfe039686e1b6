/-
  DiskNil: the walk.
-/
import Derived.Test.YtdomkphljegkiaaDwA
namespace Go.Proofs.Ytdomkphljegkiaa
open Go.RowKit Go.Maps

set_option maxHeartbeats 1000000 in
theorem nil_walk (n : Int) (a b : Option Addr) (la ca lb cb : Nat) (w : World) : Calls Try.prog 5 #[.int .i64 n, .slice a la ca, .slice b lb cb] w fun e w' => e = .returned (.bool true) ∧ Grows w w' := by
  by_cases h1 : 200 < la
  · have h1' : (200 : Int) < (la : Int) := by omega
    go_enter Try.func5, Try.ntmps5
    go_wp2_with fail
    refine (wakes_any _).mono ?_
    rintro e w1 ⟨rfl, hG⟩
    go_wp2_with fail
    go_ret
    exact ⟨rfl, hG⟩
  · have h1' : ¬ (200 : Int) < (la : Int) := by omega
    by_cases h2 : 100 < lb
    · have h2' : (100 : Int) < (lb : Int) := by omega
      go_enter Try.func5, Try.ntmps5
      go_wp2_with fail
      refine (wakes_any _).mono ?_
      rintro e w1 ⟨rfl, hG⟩
      go_wp2_with fail
      go_ret
      exact ⟨rfl, hG⟩
    · have h2' : ¬ (100 : Int) < (lb : Int) := by omega
      clear h1 h2
      go_enter Try.func5, Try.ntmps5
      go_wp2_with fail
      refine (read_nil _ _).mono ?_
      rintro e w1 ⟨rfl, rfl⟩
      go_wp2_with fail
      refine (write_nil _ _ _).mono ?_
      rintro e w1 ⟨rfl, rfl⟩
      go_wp2_with fail
      refine (flush_nil _).mono ?_
      rintro e w1 ⟨rfl, rfl⟩
      go_wp2_with fail
      refine (crash_nil _ _).mono ?_
      rintro e w1 ⟨rfl, hG1⟩
      go_wp2_with fail
      refine (up_nil _).mono ?_
      rintro e w2 ⟨rfl, rfl⟩
      go_wp2_with fail
      refine (down_nil _).mono ?_
      rintro e w2 ⟨rfl, rfl⟩
      go_wp2_with fail
      refine (writes_nil _).mono ?_
      rintro e w2 ⟨rfl, rfl⟩
      go_wp2_with fail
      refine (durable_nil _).mono ?_
      rintro e w2 ⟨rfl, rfl⟩
      go_wp2_with fail
      refine (copy_nil _).mono ?_
      rintro e w2 ⟨rfl, rfl⟩
      go_wp2_with fail
      refine (wakes_any _).mono ?_
      rintro e w3 ⟨rfl, hG3⟩
      go_wp2_with fail
      go_ret
      exact ⟨rfl, hG1.trans hG3⟩
end Go.Proofs.Ytdomkphljegkiaa
