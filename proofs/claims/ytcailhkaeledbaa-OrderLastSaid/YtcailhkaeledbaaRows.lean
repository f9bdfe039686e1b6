/-
  No cell of these rows narrows 'for every input' (looked for: loops, veiled, ifaces, maps, wideKeys, modest, calm, conditions, laid).
  DERIVED. THE GIVEN ROWS OF THIS SEAT. 3 by the template 'for every input the law returns true; each argument reads behind the call as it read before'; 0 by the template 'total and deterministic' (their statements: YtcailhkaeledbaaTotals.lean).
  GIVEN WITH THE SEED: the statements are not yours to turn. If you find one false, say at which input.
  Laid BY PROGRAM, IN A SANDBOX (cutbox-rows.mjs): the forced cells as the released guide's own fill.sh prints them over the translation 4323088084435fda… (all of the seat's roots in one cut). By AI agents, Wed Nov 11 2026. No macro, syntax, notation, axiom, sorry.
-/
import Derived.Test.YtcailhkaeledbaaChecked
import GoSem.Claim
import GoSem.ClaimJoined
import GoSem.ClaimMapViews
import Derived.JoinedTies
import Derived.KernelRfl
namespace Go.Proofs.Ytcailhkaeledbaa
/- THE CELL 'sum', in the pinned program and in every row, IS THE sha256 OF THE DUMP (.gsa) THAT YtcailhkaeledbaaProg.lean LOADS. Nothing in Lean hashes anything: it is a label: what it is worth is what the hold of that sum in a sandbox is worth. -/
noncomputable def Try.pinned : Pinned := { name := "ytcailhkaeledbaa", sum := "4323088084435fda59c61c0a1264123568a8ff7fb0477921c716cfa665e3e6ce", checked := Try.checked }
namespace Rows
def none {H : Type} : Left H := { results := [], args := [] }

/-- 'cashboxlaw27.OrderGrows': WHATEVER THE INPUT: true; the input reads as it did. -/
def orderGrowsSpec : ChangeSpec := { name := "orderGrows", fn := fun _ => fun
  | [d1, d2] => { results := [.lit (.bool true)], args := [d1, d2] }
  | _ => none }
def orderGrowsRow : OpenClaim := { program := "ytcailhkaeledbaa", sum := "4323088084435fda59c61c0a1264123568a8ff7fb0477921c716cfa665e3e6ce", func := "cashbox/cashboxlaw27.OrderGrows", spec := "orderGrows", unfollowed := true, recurses := true, plainKeys := false, apart := false }
def OrderGrowsSaid : Prop := orderGrowsRow.holds Try.pinned (OpenSpec.ofChange orderGrowsSpec)

/-- ITS FALSE NEIGHBOUR: 'it returns false'. Refute it at one input. -/
def orderGrowsWrong : ChangeSpec := { name := "orderGrows", fn := fun _ => fun
  | [d1, d2] => { results := [.lit (.bool false)], args := [d1, d2] }
  | _ => none }
def OrderGrowsWrongFalsely : Prop := orderGrowsRow.holds Try.pinned (OpenSpec.ofChange orderGrowsWrong)

/-- 'cashboxlaw27.OrderTime': WHATEVER THE INPUT: true; the input reads as it did. -/
def orderTimeSpec : ChangeSpec := { name := "orderTime", fn := fun _ => fun
  | [d] => { results := [.lit (.bool true)], args := [d] }
  | _ => none }
def orderTimeRow : OpenClaim := { program := "ytcailhkaeledbaa", sum := "4323088084435fda59c61c0a1264123568a8ff7fb0477921c716cfa665e3e6ce", func := "cashbox/cashboxlaw27.OrderTime", spec := "orderTime", unfollowed := true, recurses := true, plainKeys := false, apart := false }
def OrderTimeSaid : Prop := orderTimeRow.holds Try.pinned (OpenSpec.ofChange orderTimeSpec)

/-- ITS FALSE NEIGHBOUR: 'it returns false'. Refute it at one input. -/
def orderTimeWrong : ChangeSpec := { name := "orderTime", fn := fun _ => fun
  | [d] => { results := [.lit (.bool false)], args := [d] }
  | _ => none }
def OrderTimeWrongFalsely : Prop := orderTimeRow.holds Try.pinned (OpenSpec.ofChange orderTimeWrong)

/-- 'cashboxlaw27.OrderLast': WHATEVER THE INPUT: true; the input reads as it did. -/
def orderLastSpec : ChangeSpec := { name := "orderLast", fn := fun _ => fun
  | [d1, d2] => { results := [.lit (.bool true)], args := [d1, d2] }
  | _ => none }
def orderLastRow : OpenClaim := { program := "ytcailhkaeledbaa", sum := "4323088084435fda59c61c0a1264123568a8ff7fb0477921c716cfa665e3e6ce", func := "cashbox/cashboxlaw27.OrderLast", spec := "orderLast", unfollowed := true, recurses := true, plainKeys := false, apart := false }
def OrderLastSaid : Prop := orderLastRow.holds Try.pinned (OpenSpec.ofChange orderLastSpec)

/-- ITS FALSE NEIGHBOUR: 'it returns false'. Refute it at one input. -/
def orderLastWrong : ChangeSpec := { name := "orderLast", fn := fun _ => fun
  | [d1, d2] => { results := [.lit (.bool false)], args := [d1, d2] }
  | _ => none }
def OrderLastWrongFalsely : Prop := orderLastRow.holds Try.pinned (OpenSpec.ofChange orderLastWrong)

/- THE SECOND FORM. 'bulk': how many values and letters a reading holds, each counted each time it is reached (what is shared counts as often as it is met; a slice's spare places count too). A statement '..UptoSaid' is the law's where the arguments, and the package variables that the reading takes, are together of bulk at most 1048576: NARROWER than '..Said'. Prove '..Said' where nothing that the law and all that it calls make is longer than what came in: it says more and counts as full. Else prove '..UptoSaid'. A law counts once. -/
mutual
def uptoBulk {H : Type} : DataW H → Nat
  | .lit (.string bytes) => bytes.length + 1
  | .lit _ => 1
  | .nil => 1
  | .ptr d => uptoBulk d + 1
  | .slice elems spare => uptoBulkAll elems + uptoBulkAll spare + 1
  | .agg parts => uptoBulkAll parts + 1
  | .iface _ d => uptoBulk d + 1
  | .map entries => uptoBulkEntries entries + 1
  | .held _ => 1
def uptoBulkAll {H : Type} : List (DataW H) → Nat
  | [] => 0
  | d :: r => uptoBulk d + uptoBulkAll r
def uptoBulkEntries {H : Type} : List (Lit × DataW H) → Nat
  | [] => 0
  | x :: r => uptoBulkEntry x + uptoBulkEntries r
def uptoBulkEntry {H : Type} : Lit × DataW H → Nat
  | (.string bytes, d) => bytes.length + uptoBulk d + 1
  | (_, d) => uptoBulk d + 1
 end
def uptoSmall : (H : Type) → List (DataW H) → Bool := fun _ ds => decide (uptoBulkAll ds ≤ 1048576)
def OpenSpec.upto (s : _root_.Go.ChangeSpec) : _root_.Go.OpenSpec := { _root_.Go.OpenSpec.ofChange s with cond := some uptoSmall }

/-- 'cashboxlaw27.OrderGrows', WHERE WHAT IT READS IS OF BULK AT MOST 1048576: true; the input reads as it did. -/
def orderGrowsUptoRow : OpenClaim := { program := "ytcailhkaeledbaa", sum := "4323088084435fda59c61c0a1264123568a8ff7fb0477921c716cfa665e3e6ce", func := "cashbox/cashboxlaw27.OrderGrows", spec := "orderGrows", unfollowed := true, recurses := true, plainKeys := false, apart := false, narrowed := true }
def OrderGrowsUptoSaid : Prop := orderGrowsUptoRow.holds Try.pinned (OpenSpec.upto orderGrowsSpec)

/-- 'cashboxlaw27.OrderTime', WHERE WHAT IT READS IS OF BULK AT MOST 1048576: true; the input reads as it did. -/
def orderTimeUptoRow : OpenClaim := { program := "ytcailhkaeledbaa", sum := "4323088084435fda59c61c0a1264123568a8ff7fb0477921c716cfa665e3e6ce", func := "cashbox/cashboxlaw27.OrderTime", spec := "orderTime", unfollowed := true, recurses := true, plainKeys := false, apart := false, narrowed := true }
def OrderTimeUptoSaid : Prop := orderTimeUptoRow.holds Try.pinned (OpenSpec.upto orderTimeSpec)

/-- 'cashboxlaw27.OrderLast', WHERE WHAT IT READS IS OF BULK AT MOST 1048576: true; the input reads as it did. -/
def orderLastUptoRow : OpenClaim := { program := "ytcailhkaeledbaa", sum := "4323088084435fda59c61c0a1264123568a8ff7fb0477921c716cfa665e3e6ce", func := "cashbox/cashboxlaw27.OrderLast", spec := "orderLast", unfollowed := true, recurses := true, plainKeys := false, apart := false, narrowed := true }
def OrderLastUptoSaid : Prop := orderLastUptoRow.holds Try.pinned (OpenSpec.upto orderLastSpec)

end Rows
end Go.Proofs.Ytcailhkaeledbaa
