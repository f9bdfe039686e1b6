/-
  No cell of these rows narrows 'for every input' (looked for: loops, veiled, ifaces, maps, wideKeys, modest, calm, conditions, laid).
  DERIVED. THE GIVEN ROWS OF THIS SEAT. 4 by the template 'for every input the law returns true; each argument reads behind the call as it read before'; 0 by the template 'total and deterministic' (their statements: YtgmpeljnekpefaaTotals.lean).
  GIVEN WITH THE SEED: the statements are not yours to turn. If you find one false, say at which input.
  Laid BY PROGRAM, IN A SANDBOX (cutbox-rows.mjs): the forced cells as the released guide's own fill.sh prints them over the translation aaf50d2407594033… (all of the seat's roots in one cut). By AI agents, Wed Nov 11 2026. No macro, syntax, notation, axiom, sorry.
-/
import Derived.Test.YtgmpeljnekpefaaChecked
import GoSem.Claim
import GoSem.ClaimJoined
import GoSem.ClaimMapViews
import Derived.JoinedTies
import Derived.KernelRfl
namespace Go.Proofs.Ytgmpeljnekpefaa
/- THE CELL 'sum', in the pinned program and in every row, IS THE sha256 OF THE DUMP (.gsa) THAT YtgmpeljnekpefaaProg.lean LOADS. Nothing in Lean hashes anything: it is a label: what it is worth is what the hold of that sum in a sandbox is worth. -/
noncomputable def Try.pinned : Pinned := { name := "ytgmpeljnekpefaa", sum := "aaf50d240759403317147061f31b251b9353d4cfc7137248d32e82f238960bd8", checked := Try.checked }
namespace Rows
def none {H : Type} : Left H := { results := [], args := [] }

/-- 'cashboxlaw01.SumsPieces': WHATEVER THE INPUT: true; the input reads as it did. -/
def sumsPiecesSpec : ChangeSpec := { name := "sumsPieces", fn := fun _ => fun
  | [d1, d2] => { results := [.lit (.bool true)], args := [d1, d2] }
  | _ => none }
def sumsPiecesRow : OpenClaim := { program := "ytgmpeljnekpefaa", sum := "aaf50d240759403317147061f31b251b9353d4cfc7137248d32e82f238960bd8", func := "cashbox/cashboxlaw01.SumsPieces", spec := "sumsPieces", unfollowed := true, recurses := true, apart := false }
def SumsPiecesSaid : Prop := sumsPiecesRow.holds Try.pinned (OpenSpec.ofChange sumsPiecesSpec)

/-- ITS FALSE NEIGHBOUR: 'it returns false'. Refute it at one input. -/
def sumsPiecesWrong : ChangeSpec := { name := "sumsPieces", fn := fun _ => fun
  | [d1, d2] => { results := [.lit (.bool false)], args := [d1, d2] }
  | _ => none }
def SumsPiecesWrongFalsely : Prop := sumsPiecesRow.holds Try.pinned (OpenSpec.ofChange sumsPiecesWrong)

/-- 'cashboxlaw01.SumsOpen': WHATEVER THE INPUT: true; the input reads as it did. -/
def sumsOpenSpec : ChangeSpec := { name := "sumsOpen", fn := fun _ => fun
  | [d1, d2, d3] => { results := [.lit (.bool true)], args := [d1, d2, d3] }
  | _ => none }
def sumsOpenRow : OpenClaim := { program := "ytgmpeljnekpefaa", sum := "aaf50d240759403317147061f31b251b9353d4cfc7137248d32e82f238960bd8", func := "cashbox/cashboxlaw01.SumsOpen", spec := "sumsOpen", unfollowed := true, recurses := true, apart := false }
def SumsOpenSaid : Prop := sumsOpenRow.holds Try.pinned (OpenSpec.ofChange sumsOpenSpec)

/-- ITS FALSE NEIGHBOUR: 'it returns false'. Refute it at one input. -/
def sumsOpenWrong : ChangeSpec := { name := "sumsOpen", fn := fun _ => fun
  | [d1, d2, d3] => { results := [.lit (.bool false)], args := [d1, d2, d3] }
  | _ => none }
def SumsOpenWrongFalsely : Prop := sumsOpenRow.holds Try.pinned (OpenSpec.ofChange sumsOpenWrong)

/-- 'cashboxlaw01.SumsOwn': WHATEVER THE INPUT: true; the input reads as it did. -/
def sumsOwnSpec : ChangeSpec := { name := "sumsOwn", fn := fun _ => fun
  | [d1, d2] => { results := [.lit (.bool true)], args := [d1, d2] }
  | _ => none }
def sumsOwnRow : OpenClaim := { program := "ytgmpeljnekpefaa", sum := "aaf50d240759403317147061f31b251b9353d4cfc7137248d32e82f238960bd8", func := "cashbox/cashboxlaw01.SumsOwn", spec := "sumsOwn", unfollowed := true, recurses := true, apart := false }
def SumsOwnSaid : Prop := sumsOwnRow.holds Try.pinned (OpenSpec.ofChange sumsOwnSpec)

/-- ITS FALSE NEIGHBOUR: 'it returns false'. Refute it at one input. -/
def sumsOwnWrong : ChangeSpec := { name := "sumsOwn", fn := fun _ => fun
  | [d1, d2] => { results := [.lit (.bool false)], args := [d1, d2] }
  | _ => none }
def SumsOwnWrongFalsely : Prop := sumsOwnRow.holds Try.pinned (OpenSpec.ofChange sumsOwnWrong)

/-- 'cashboxlaw01.SumsTell': WHATEVER THE INPUT: true; the input reads as it did. -/
def sumsTellSpec : ChangeSpec := { name := "sumsTell", fn := fun _ => fun
  | [d1, d2] => { results := [.lit (.bool true)], args := [d1, d2] }
  | _ => none }
def sumsTellRow : OpenClaim := { program := "ytgmpeljnekpefaa", sum := "aaf50d240759403317147061f31b251b9353d4cfc7137248d32e82f238960bd8", func := "cashbox/cashboxlaw01.SumsTell", spec := "sumsTell", unfollowed := true, recurses := true, apart := false }
def SumsTellSaid : Prop := sumsTellRow.holds Try.pinned (OpenSpec.ofChange sumsTellSpec)

/-- ITS FALSE NEIGHBOUR: 'it returns false'. Refute it at one input. -/
def sumsTellWrong : ChangeSpec := { name := "sumsTell", fn := fun _ => fun
  | [d1, d2] => { results := [.lit (.bool false)], args := [d1, d2] }
  | _ => none }
def SumsTellWrongFalsely : Prop := sumsTellRow.holds Try.pinned (OpenSpec.ofChange sumsTellWrong)

/- THE SECOND FORM. 'bulk': how many values and letters a reading holds, each counted each time it is reached (what is shared counts as often as it is met; a slice's spare places count too). A statement '..UptoSaid' is the law's where the arguments, and the package variables that the reading takes, are together of bulk at most 1048576: NARROWER than '..Said'. Prove '..Said' where nothing that the law and all that it calls make is longer than what came in: it says more and counts as full. Else prove '..UptoSaid'. A law counts once. -/
mutual
def uptoBulk {H : Type} : DataW H → Nat
  | .lit (.string bytes) => bytes.length + 1
  | .lit _ => 1
  | .nil => 1
  | .ptr d => uptoBulk d + 1
  | .slice elems spare => uptoBulkAll elems + uptoBulkAll spare + 1
  | .agg parts => uptoBulkAll parts + 1
  | .iface _ d => uptoBulk d + 1
  | .map entries => uptoBulkEntries entries + 1
  | .held _ => 1
def uptoBulkAll {H : Type} : List (DataW H) → Nat
  | [] => 0
  | d :: r => uptoBulk d + uptoBulkAll r
def uptoBulkEntries {H : Type} : List (Lit × DataW H) → Nat
  | [] => 0
  | x :: r => uptoBulkEntry x + uptoBulkEntries r
def uptoBulkEntry {H : Type} : Lit × DataW H → Nat
  | (.string bytes, d) => bytes.length + uptoBulk d + 1
  | (_, d) => uptoBulk d + 1
 end
def uptoSmall : (H : Type) → List (DataW H) → Bool := fun _ ds => decide (uptoBulkAll ds ≤ 1048576)
def OpenSpec.upto (s : _root_.Go.ChangeSpec) : _root_.Go.OpenSpec := { _root_.Go.OpenSpec.ofChange s with cond := some uptoSmall }

/-- 'cashboxlaw01.SumsPieces', WHERE WHAT IT READS IS OF BULK AT MOST 1048576: true; the input reads as it did. -/
def sumsPiecesUptoRow : OpenClaim := { program := "ytgmpeljnekpefaa", sum := "aaf50d240759403317147061f31b251b9353d4cfc7137248d32e82f238960bd8", func := "cashbox/cashboxlaw01.SumsPieces", spec := "sumsPieces", unfollowed := true, recurses := true, apart := false, narrowed := true }
def SumsPiecesUptoSaid : Prop := sumsPiecesUptoRow.holds Try.pinned (OpenSpec.upto sumsPiecesSpec)

/-- 'cashboxlaw01.SumsOpen', WHERE WHAT IT READS IS OF BULK AT MOST 1048576: true; the input reads as it did. -/
def sumsOpenUptoRow : OpenClaim := { program := "ytgmpeljnekpefaa", sum := "aaf50d240759403317147061f31b251b9353d4cfc7137248d32e82f238960bd8", func := "cashbox/cashboxlaw01.SumsOpen", spec := "sumsOpen", unfollowed := true, recurses := true, apart := false, narrowed := true }
def SumsOpenUptoSaid : Prop := sumsOpenUptoRow.holds Try.pinned (OpenSpec.upto sumsOpenSpec)

/-- 'cashboxlaw01.SumsOwn', WHERE WHAT IT READS IS OF BULK AT MOST 1048576: true; the input reads as it did. -/
def sumsOwnUptoRow : OpenClaim := { program := "ytgmpeljnekpefaa", sum := "aaf50d240759403317147061f31b251b9353d4cfc7137248d32e82f238960bd8", func := "cashbox/cashboxlaw01.SumsOwn", spec := "sumsOwn", unfollowed := true, recurses := true, apart := false, narrowed := true }
def SumsOwnUptoSaid : Prop := sumsOwnUptoRow.holds Try.pinned (OpenSpec.upto sumsOwnSpec)

/-- 'cashboxlaw01.SumsTell', WHERE WHAT IT READS IS OF BULK AT MOST 1048576: true; the input reads as it did. -/
def sumsTellUptoRow : OpenClaim := { program := "ytgmpeljnekpefaa", sum := "aaf50d240759403317147061f31b251b9353d4cfc7137248d32e82f238960bd8", func := "cashbox/cashboxlaw01.SumsTell", spec := "sumsTell", unfollowed := true, recurses := true, apart := false, narrowed := true }
def SumsTellUptoSaid : Prop := sumsTellUptoRow.holds Try.pinned (OpenSpec.upto sumsTellSpec)

end Rows
end Go.Proofs.Ytgmpeljnekpefaa
