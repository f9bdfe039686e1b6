/-
  No cell of these rows narrows 'for every input' (looked for: loops, veiled, ifaces, maps, wideKeys, modest, calm, conditions, laid).
  DERIVED. THE GIVEN ROWS OF THIS SEAT. 6 by the template 'for every input the law returns true; each argument reads behind the call as it read before'; 0 by the template 'total and deterministic' (their statements: YtfigoeoimefngaaTotals.lean).
  GIVEN WITH THE SEED: the statements are not yours to turn. If you find one false, say at which input.
  Laid BY PROGRAM, IN A SANDBOX (cutbox-rows.mjs): the forced cells as the released guide's own fill.sh prints them over the translation 475a1f3a15e02512… (all of the seat's roots in one cut). By AI agents, Wed Nov 11 2026. No macro, syntax, notation, axiom, sorry.
-/
import Derived.Test.YtfigoeoimefngaaChecked
import GoSem.Claim
import GoSem.ClaimJoined
import GoSem.ClaimMapViews
import Derived.JoinedTies
import Derived.KernelRfl
namespace Go.Proofs.Ytfigoeoimefngaa
/- THE CELL 'sum', in the pinned program and in every row, IS THE sha256 OF THE DUMP (.gsa) THAT YtfigoeoimefngaaProg.lean LOADS. Nothing in Lean hashes anything: it is a label: what it is worth is what the hold of that sum in a sandbox is worth. -/
noncomputable def Try.pinned : Pinned := { name := "ytfigoeoimefngaa", sum := "475a1f3a15e025122903f80c592749b2db1760771d8759d20a99c6efe74fcfba", checked := Try.checked }
namespace Rows
def none {H : Type} : Left H := { results := [], args := [] }

/-- 'cashboxlaw32.WitnessBlames': WHATEVER THE INPUT: true; the input reads as it did. -/
def witnessBlamesSpec : ChangeSpec := { name := "witnessBlames", fn := fun _ => fun
  | [d] => { results := [.lit (.bool true)], args := [d] }
  | _ => none }
def witnessBlamesRow : OpenClaim := { program := "ytfigoeoimefngaa", sum := "475a1f3a15e025122903f80c592749b2db1760771d8759d20a99c6efe74fcfba", func := "cashbox/cashboxlaw32.WitnessBlames", spec := "witnessBlames", unfollowed := true, recurses := true, plainKeys := false, apart := false }
def WitnessBlamesSaid : Prop := witnessBlamesRow.holds Try.pinned (OpenSpec.ofChange witnessBlamesSpec)

/-- ITS FALSE NEIGHBOUR: 'it returns false'. Refute it at one input. -/
def witnessBlamesWrong : ChangeSpec := { name := "witnessBlames", fn := fun _ => fun
  | [d] => { results := [.lit (.bool false)], args := [d] }
  | _ => none }
def WitnessBlamesWrongFalsely : Prop := witnessBlamesRow.holds Try.pinned (OpenSpec.ofChange witnessBlamesWrong)

/-- 'cashboxlaw32.WitnessGrows': WHATEVER THE INPUT: true; the input reads as it did. -/
def witnessGrowsSpec : ChangeSpec := { name := "witnessGrows", fn := fun _ => fun
  | [d1, d2, d3] => { results := [.lit (.bool true)], args := [d1, d2, d3] }
  | _ => none }
def witnessGrowsRow : OpenClaim := { program := "ytfigoeoimefngaa", sum := "475a1f3a15e025122903f80c592749b2db1760771d8759d20a99c6efe74fcfba", func := "cashbox/cashboxlaw32.WitnessGrows", spec := "witnessGrows", unfollowed := true, recurses := true, plainKeys := false, apart := false }
def WitnessGrowsSaid : Prop := witnessGrowsRow.holds Try.pinned (OpenSpec.ofChange witnessGrowsSpec)

/-- ITS FALSE NEIGHBOUR: 'it returns false'. Refute it at one input. -/
def witnessGrowsWrong : ChangeSpec := { name := "witnessGrows", fn := fun _ => fun
  | [d1, d2, d3] => { results := [.lit (.bool false)], args := [d1, d2, d3] }
  | _ => none }
def WitnessGrowsWrongFalsely : Prop := witnessGrowsRow.holds Try.pinned (OpenSpec.ofChange witnessGrowsWrong)

/-- 'cashboxlaw32.WitnessMends': WHATEVER THE INPUT: true; the input reads as it did. -/
def witnessMendsSpec : ChangeSpec := { name := "witnessMends", fn := fun _ => fun
  | [d] => { results := [.lit (.bool true)], args := [d] }
  | _ => none }
def witnessMendsRow : OpenClaim := { program := "ytfigoeoimefngaa", sum := "475a1f3a15e025122903f80c592749b2db1760771d8759d20a99c6efe74fcfba", func := "cashbox/cashboxlaw32.WitnessMends", spec := "witnessMends", unfollowed := true, recurses := true, plainKeys := false, apart := false }
def WitnessMendsSaid : Prop := witnessMendsRow.holds Try.pinned (OpenSpec.ofChange witnessMendsSpec)

/-- ITS FALSE NEIGHBOUR: 'it returns false'. Refute it at one input. -/
def witnessMendsWrong : ChangeSpec := { name := "witnessMends", fn := fun _ => fun
  | [d] => { results := [.lit (.bool false)], args := [d] }
  | _ => none }
def WitnessMendsWrongFalsely : Prop := witnessMendsRow.holds Try.pinned (OpenSpec.ofChange witnessMendsWrong)

/-- 'cashboxlaw32.WitnessSpoils': WHATEVER THE INPUT: true; the input reads as it did. -/
def witnessSpoilsSpec : ChangeSpec := { name := "witnessSpoils", fn := fun _ => fun
  | [d1, d2, d3] => { results := [.lit (.bool true)], args := [d1, d2, d3] }
  | _ => none }
def witnessSpoilsRow : OpenClaim := { program := "ytfigoeoimefngaa", sum := "475a1f3a15e025122903f80c592749b2db1760771d8759d20a99c6efe74fcfba", func := "cashbox/cashboxlaw32.WitnessSpoils", spec := "witnessSpoils", unfollowed := true, recurses := true, plainKeys := false, apart := false }
def WitnessSpoilsSaid : Prop := witnessSpoilsRow.holds Try.pinned (OpenSpec.ofChange witnessSpoilsSpec)

/-- ITS FALSE NEIGHBOUR: 'it returns false'. Refute it at one input. -/
def witnessSpoilsWrong : ChangeSpec := { name := "witnessSpoils", fn := fun _ => fun
  | [d1, d2, d3] => { results := [.lit (.bool false)], args := [d1, d2, d3] }
  | _ => none }
def WitnessSpoilsWrongFalsely : Prop := witnessSpoilsRow.holds Try.pinned (OpenSpec.ofChange witnessSpoilsWrong)

/-- 'cashboxlaw32.WitnessSerial': WHATEVER THE INPUT: true; the input reads as it did. -/
def witnessSerialSpec : ChangeSpec := { name := "witnessSerial", fn := fun _ => fun
  | [d] => { results := [.lit (.bool true)], args := [d] }
  | _ => none }
def witnessSerialRow : OpenClaim := { program := "ytfigoeoimefngaa", sum := "475a1f3a15e025122903f80c592749b2db1760771d8759d20a99c6efe74fcfba", func := "cashbox/cashboxlaw32.WitnessSerial", spec := "witnessSerial", unfollowed := true, recurses := true, plainKeys := false, apart := false }
def WitnessSerialSaid : Prop := witnessSerialRow.holds Try.pinned (OpenSpec.ofChange witnessSerialSpec)

/-- ITS FALSE NEIGHBOUR: 'it returns false'. Refute it at one input. -/
def witnessSerialWrong : ChangeSpec := { name := "witnessSerial", fn := fun _ => fun
  | [d] => { results := [.lit (.bool false)], args := [d] }
  | _ => none }
def WitnessSerialWrongFalsely : Prop := witnessSerialRow.holds Try.pinned (OpenSpec.ofChange witnessSerialWrong)

/-- 'cashboxlaw32.WitnessTells': WHATEVER THE INPUT: true; the input reads as it did. -/
def witnessTellsSpec : ChangeSpec := { name := "witnessTells", fn := fun _ => fun
  | [d] => { results := [.lit (.bool true)], args := [d] }
  | _ => none }
def witnessTellsRow : OpenClaim := { program := "ytfigoeoimefngaa", sum := "475a1f3a15e025122903f80c592749b2db1760771d8759d20a99c6efe74fcfba", func := "cashbox/cashboxlaw32.WitnessTells", spec := "witnessTells", unfollowed := true, recurses := true, plainKeys := false, apart := false }
def WitnessTellsSaid : Prop := witnessTellsRow.holds Try.pinned (OpenSpec.ofChange witnessTellsSpec)

/-- ITS FALSE NEIGHBOUR: 'it returns false'. Refute it at one input. -/
def witnessTellsWrong : ChangeSpec := { name := "witnessTells", fn := fun _ => fun
  | [d] => { results := [.lit (.bool false)], args := [d] }
  | _ => none }
def WitnessTellsWrongFalsely : Prop := witnessTellsRow.holds Try.pinned (OpenSpec.ofChange witnessTellsWrong)

/- THE SECOND FORM. 'bulk': how many values and letters a reading holds, each counted each time it is reached (what is shared counts as often as it is met; a slice's spare places count too). A statement '..UptoSaid' is the law's where the arguments, and the package variables that the reading takes, are together of bulk at most 1048576: NARROWER than '..Said'. Prove '..Said' where nothing that the law and all that it calls make is longer than what came in: it says more and counts as full. Else prove '..UptoSaid'. A law counts once. -/
mutual
def uptoBulk {H : Type} : DataW H → Nat
  | .lit (.string bytes) => bytes.length + 1
  | .lit _ => 1
  | .nil => 1
  | .ptr d => uptoBulk d + 1
  | .slice elems spare => uptoBulkAll elems + uptoBulkAll spare + 1
  | .agg parts => uptoBulkAll parts + 1
  | .iface _ d => uptoBulk d + 1
  | .map entries => uptoBulkEntries entries + 1
  | .held _ => 1
def uptoBulkAll {H : Type} : List (DataW H) → Nat
  | [] => 0
  | d :: r => uptoBulk d + uptoBulkAll r
def uptoBulkEntries {H : Type} : List (Lit × DataW H) → Nat
  | [] => 0
  | x :: r => uptoBulkEntry x + uptoBulkEntries r
def uptoBulkEntry {H : Type} : Lit × DataW H → Nat
  | (.string bytes, d) => bytes.length + uptoBulk d + 1
  | (_, d) => uptoBulk d + 1
 end
def uptoSmall : (H : Type) → List (DataW H) → Bool := fun _ ds => decide (uptoBulkAll ds ≤ 1048576)
def OpenSpec.upto (s : _root_.Go.ChangeSpec) : _root_.Go.OpenSpec := { _root_.Go.OpenSpec.ofChange s with cond := some uptoSmall }

/-- 'cashboxlaw32.WitnessBlames', WHERE WHAT IT READS IS OF BULK AT MOST 1048576: true; the input reads as it did. -/
def witnessBlamesUptoRow : OpenClaim := { program := "ytfigoeoimefngaa", sum := "475a1f3a15e025122903f80c592749b2db1760771d8759d20a99c6efe74fcfba", func := "cashbox/cashboxlaw32.WitnessBlames", spec := "witnessBlames", unfollowed := true, recurses := true, plainKeys := false, apart := false, narrowed := true }
def WitnessBlamesUptoSaid : Prop := witnessBlamesUptoRow.holds Try.pinned (OpenSpec.upto witnessBlamesSpec)

/-- 'cashboxlaw32.WitnessGrows', WHERE WHAT IT READS IS OF BULK AT MOST 1048576: true; the input reads as it did. -/
def witnessGrowsUptoRow : OpenClaim := { program := "ytfigoeoimefngaa", sum := "475a1f3a15e025122903f80c592749b2db1760771d8759d20a99c6efe74fcfba", func := "cashbox/cashboxlaw32.WitnessGrows", spec := "witnessGrows", unfollowed := true, recurses := true, plainKeys := false, apart := false, narrowed := true }
def WitnessGrowsUptoSaid : Prop := witnessGrowsUptoRow.holds Try.pinned (OpenSpec.upto witnessGrowsSpec)

/-- 'cashboxlaw32.WitnessMends', WHERE WHAT IT READS IS OF BULK AT MOST 1048576: true; the input reads as it did. -/
def witnessMendsUptoRow : OpenClaim := { program := "ytfigoeoimefngaa", sum := "475a1f3a15e025122903f80c592749b2db1760771d8759d20a99c6efe74fcfba", func := "cashbox/cashboxlaw32.WitnessMends", spec := "witnessMends", unfollowed := true, recurses := true, plainKeys := false, apart := false, narrowed := true }
def WitnessMendsUptoSaid : Prop := witnessMendsUptoRow.holds Try.pinned (OpenSpec.upto witnessMendsSpec)

/-- 'cashboxlaw32.WitnessSpoils', WHERE WHAT IT READS IS OF BULK AT MOST 1048576: true; the input reads as it did. -/
def witnessSpoilsUptoRow : OpenClaim := { program := "ytfigoeoimefngaa", sum := "475a1f3a15e025122903f80c592749b2db1760771d8759d20a99c6efe74fcfba", func := "cashbox/cashboxlaw32.WitnessSpoils", spec := "witnessSpoils", unfollowed := true, recurses := true, plainKeys := false, apart := false, narrowed := true }
def WitnessSpoilsUptoSaid : Prop := witnessSpoilsUptoRow.holds Try.pinned (OpenSpec.upto witnessSpoilsSpec)

/-- 'cashboxlaw32.WitnessSerial', WHERE WHAT IT READS IS OF BULK AT MOST 1048576: true; the input reads as it did. -/
def witnessSerialUptoRow : OpenClaim := { program := "ytfigoeoimefngaa", sum := "475a1f3a15e025122903f80c592749b2db1760771d8759d20a99c6efe74fcfba", func := "cashbox/cashboxlaw32.WitnessSerial", spec := "witnessSerial", unfollowed := true, recurses := true, plainKeys := false, apart := false, narrowed := true }
def WitnessSerialUptoSaid : Prop := witnessSerialUptoRow.holds Try.pinned (OpenSpec.upto witnessSerialSpec)

/-- 'cashboxlaw32.WitnessTells', WHERE WHAT IT READS IS OF BULK AT MOST 1048576: true; the input reads as it did. -/
def witnessTellsUptoRow : OpenClaim := { program := "ytfigoeoimefngaa", sum := "475a1f3a15e025122903f80c592749b2db1760771d8759d20a99c6efe74fcfba", func := "cashbox/cashboxlaw32.WitnessTells", spec := "witnessTells", unfollowed := true, recurses := true, plainKeys := false, apart := false, narrowed := true }
def WitnessTellsUptoSaid : Prop := witnessTellsUptoRow.holds Try.pinned (OpenSpec.upto witnessTellsSpec)

end Rows
end Go.Proofs.Ytfigoeoimefngaa
