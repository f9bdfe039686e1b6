/-
  HomeBack: the walk, joined.
-/
import Derived.Test.YtmcofmidpedkiaaHmY
import Derived.Test.YtmcofmidpedkiaaHmZ
namespace Go.Proofs.Ytmcofmidpedkiaa
open Go.RowKit Go.Maps
theorem back_walk (p : Int) (L : List Nat) (n1 : Nat) (hL : L.length = n1 * 8) (hb : ∀ x ∈ L, x < 256) (a1 : Option Addr) (c1 : Nat) (hc1 : n1 ≤ c1) (n t u i b o0 o1 o2 o3 o4 o5 o6 o7 n' t' u' i' b' p0 p1 p2 p3 p4 p5 p6 p7 : Int) (keep : Bool) (w : World) (hr : Rd w a1 (bys L)) :
    Calls Try.prog 6 #[.int .i64 p, .slice a1 n1 c1, supv n t u i b o0 o1 o2 o3 o4 o5 o6 o7, supv n' t' u' i' b' p0 p1 p2 p3 p4 p5 p6 p7, .bool keep] w fun e w' => e = .returned (.bool true) ∧ Grows w w' := by
  by_cases hok : 0 ≤ p ∧ p < 8 ∧ n1 = 4
  · exact back_good p L n1 hL hb a1 c1 hc1 n t u i b o0 o1 o2 o3 o4 o5 o6 o7 n' t' u' i' b' p0 p1 p2 p3 p4 p5 p6 p7 keep w hr hok
  · exact back_bad p L n1 hL hb a1 c1 n t u i b o0 o1 o2 o3 o4 o5 o6 o7 n' t' u' i' b' p0 p1 p2 p3 p4 p5 p6 p7 keep w hr hok
end Go.Proofs.Ytmcofmidpedkiaa
