/-
  age.Oldest, with its closure.
-/
import Derived.Test.YtpllcjggjjapoaaNmC
namespace Go.Proofs.Ytpllcjggjjapoaa
open Go.RowKit

def least (a b : Nm) : Nm := if lessN b a then b else a
def oldestN (x : Nm) (l : List Nm) : Nm := l.foldl least x
theorem zname (W : World) : (zeroValue 24).run Try.prog W = .ok (.agg #[.int .i64 0, .int .i64 0, .int .i64 0]) W := by kernel_rfl
theorem one3 (a b c : Int) : (#[.int .i64 a, .int .i64 b, .int .i64 c] : Array Value).all (·.oneCell') = true := all_oneCell_toArray (one_ints .i64 [a, b, c])
def arr3 (x : Nm) : Array Value := #[.int .i64 x.s, .int .i64 x.i, .int .i64 x.t]

theorem at_below {w w' : World} {g B : Nat} {t : TypeId} {cs : Array Value} (h : At w g t cs) (hg : g < B) (hb : Below B w w') : At w' g t cs := (hb.block g hg).trans h
theorem below_setCells {B : Nat} {a : World} {b : Nat} (hb : B ≤ b) : ∀ (vs : List Value) {w : World} (o : Nat), Below B a w → Below B a (w.setCells b o vs)
  | [], _, _, h => h
  | v :: vs, w, o, h => by rw [World.setCells]; exact below_setCells hb vs (o + 1) (h.setCell hb v)
end Go.Proofs.Ytpllcjggjjapoaa
