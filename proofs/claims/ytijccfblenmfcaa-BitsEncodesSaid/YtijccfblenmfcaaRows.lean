/-
  No cell of these rows narrows 'for every input' (looked for: loops, veiled, ifaces, maps, wideKeys, modest, calm, conditions, laid).
  DERIVED. THE GIVEN ROWS OF THIS SEAT. 6 by the template 'for every input the law returns true; each argument reads behind the call as it read before'; 0 by the template 'total and deterministic' (their statements: YtijccfblenmfcaaTotals.lean).
  GIVEN WITH THE SEED: the statements are not yours to turn. If you find one false, say at which input.
  Laid BY PROGRAM, IN A SANDBOX (cutbox-rows.mjs): the forced cells as the released guide's own fill.sh prints them over the translation 0406d2e73803dc4f… (all of the seat's roots in one cut). By AI agents, Wed Nov 11 2026. No macro, syntax, notation, axiom, sorry.
-/
import Derived.Test.YtijccfblenmfcaaChecked
import GoSem.Claim
import GoSem.ClaimJoined
import GoSem.ClaimMapViews
import Derived.JoinedTies
import Derived.KernelRfl
namespace Go.Proofs.Ytijccfblenmfcaa
/- THE CELL 'sum', in the pinned program and in every row, IS THE sha256 OF THE DUMP (.gsa) THAT YtijccfblenmfcaaProg.lean LOADS. Nothing in Lean hashes anything: it is a label: what it is worth is what the hold of that sum in a sandbox is worth. -/
noncomputable def Try.pinned : Pinned := { name := "ytijccfblenmfcaa", sum := "0406d2e73803dc4f571831e8fbbbfe400b1e6aa044dd8fbf5ba449818f2b7bba", checked := Try.checked }
namespace Rows
def none {H : Type} : Left H := { results := [], args := [] }

/-- 'posthornlaw01.BitsDecodes': WHATEVER THE INPUT: true; the input reads as it did. -/
def bitsDecodesSpec : ChangeSpec := { name := "bitsDecodes", fn := fun _ => fun
  | [d] => { results := [.lit (.bool true)], args := [d] }
  | _ => none }
def bitsDecodesRow : OpenClaim := { program := "ytijccfblenmfcaa", sum := "0406d2e73803dc4f571831e8fbbbfe400b1e6aa044dd8fbf5ba449818f2b7bba", func := "posthorn/posthornlaw01.BitsDecodes", spec := "bitsDecodes", inPlace := ["internal/abi.NoEscape", "internal/bytealg.IndexByteString"], apart := false }
def BitsDecodesSaid : Prop := bitsDecodesRow.holds Try.pinned (OpenSpec.ofChange bitsDecodesSpec)

/-- ITS FALSE NEIGHBOUR: 'it returns false'. Refute it at one input. -/
def bitsDecodesWrong : ChangeSpec := { name := "bitsDecodes", fn := fun _ => fun
  | [d] => { results := [.lit (.bool false)], args := [d] }
  | _ => none }
def BitsDecodesWrongFalsely : Prop := bitsDecodesRow.holds Try.pinned (OpenSpec.ofChange bitsDecodesWrong)

/-- 'posthornlaw01.BitsBack': WHATEVER THE INPUT: true; the input reads as it did. -/
def bitsBackSpec : ChangeSpec := { name := "bitsBack", fn := fun _ => fun
  | [d1, d2] => { results := [.lit (.bool true)], args := [d1, d2] }
  | _ => none }
def bitsBackRow : OpenClaim := { program := "ytijccfblenmfcaa", sum := "0406d2e73803dc4f571831e8fbbbfe400b1e6aa044dd8fbf5ba449818f2b7bba", func := "posthorn/posthornlaw01.BitsBack", spec := "bitsBack", inPlace := ["internal/abi.NoEscape", "internal/bytealg.IndexByteString"], apart := false }
def BitsBackSaid : Prop := bitsBackRow.holds Try.pinned (OpenSpec.ofChange bitsBackSpec)

/-- ITS FALSE NEIGHBOUR: 'it returns false'. Refute it at one input. -/
def bitsBackWrong : ChangeSpec := { name := "bitsBack", fn := fun _ => fun
  | [d1, d2] => { results := [.lit (.bool false)], args := [d1, d2] }
  | _ => none }
def BitsBackWrongFalsely : Prop := bitsBackRow.holds Try.pinned (OpenSpec.ofChange bitsBackWrong)

/-- 'posthornlaw01.BitsOnce': WHATEVER THE INPUT: true; the input reads as it did. -/
def bitsOnceSpec : ChangeSpec := { name := "bitsOnce", fn := fun _ => fun
  | [d] => { results := [.lit (.bool true)], args := [d] }
  | _ => none }
def bitsOnceRow : OpenClaim := { program := "ytijccfblenmfcaa", sum := "0406d2e73803dc4f571831e8fbbbfe400b1e6aa044dd8fbf5ba449818f2b7bba", func := "posthorn/posthornlaw01.BitsOnce", spec := "bitsOnce", inPlace := ["internal/abi.NoEscape", "internal/bytealg.IndexByteString"], apart := false }
def BitsOnceSaid : Prop := bitsOnceRow.holds Try.pinned (OpenSpec.ofChange bitsOnceSpec)

/-- ITS FALSE NEIGHBOUR: 'it returns false'. Refute it at one input. -/
def bitsOnceWrong : ChangeSpec := { name := "bitsOnce", fn := fun _ => fun
  | [d] => { results := [.lit (.bool false)], args := [d] }
  | _ => none }
def BitsOnceWrongFalsely : Prop := bitsOnceRow.holds Try.pinned (OpenSpec.ofChange bitsOnceWrong)

/-- 'posthornlaw01.BitsLines': WHATEVER THE INPUT: true; the input reads as it did. -/
def bitsLinesSpec : ChangeSpec := { name := "bitsLines", fn := fun _ => fun
  | [d1, d2] => { results := [.lit (.bool true)], args := [d1, d2] }
  | _ => none }
def bitsLinesRow : OpenClaim := { program := "ytijccfblenmfcaa", sum := "0406d2e73803dc4f571831e8fbbbfe400b1e6aa044dd8fbf5ba449818f2b7bba", func := "posthorn/posthornlaw01.BitsLines", spec := "bitsLines", inPlace := ["internal/abi.NoEscape", "internal/bytealg.IndexByteString"], apart := false }
def BitsLinesSaid : Prop := bitsLinesRow.holds Try.pinned (OpenSpec.ofChange bitsLinesSpec)

/-- ITS FALSE NEIGHBOUR: 'it returns false'. Refute it at one input. -/
def bitsLinesWrong : ChangeSpec := { name := "bitsLines", fn := fun _ => fun
  | [d1, d2] => { results := [.lit (.bool false)], args := [d1, d2] }
  | _ => none }
def BitsLinesWrongFalsely : Prop := bitsLinesRow.holds Try.pinned (OpenSpec.ofChange bitsLinesWrong)

/-- 'posthornlaw01.BitsJoins': WHATEVER THE INPUT: true; the input reads as it did. -/
def bitsJoinsSpec : ChangeSpec := { name := "bitsJoins", fn := fun _ => fun
  | [d1, d2] => { results := [.lit (.bool true)], args := [d1, d2] }
  | _ => none }
def bitsJoinsRow : OpenClaim := { program := "ytijccfblenmfcaa", sum := "0406d2e73803dc4f571831e8fbbbfe400b1e6aa044dd8fbf5ba449818f2b7bba", func := "posthorn/posthornlaw01.BitsJoins", spec := "bitsJoins", inPlace := ["internal/abi.NoEscape", "internal/bytealg.IndexByteString"], apart := false }
def BitsJoinsSaid : Prop := bitsJoinsRow.holds Try.pinned (OpenSpec.ofChange bitsJoinsSpec)

/-- ITS FALSE NEIGHBOUR: 'it returns false'. Refute it at one input. -/
def bitsJoinsWrong : ChangeSpec := { name := "bitsJoins", fn := fun _ => fun
  | [d1, d2] => { results := [.lit (.bool false)], args := [d1, d2] }
  | _ => none }
def BitsJoinsWrongFalsely : Prop := bitsJoinsRow.holds Try.pinned (OpenSpec.ofChange bitsJoinsWrong)

/-- 'posthornlaw01.BitsEncodes': WHATEVER THE INPUT: true; the input reads as it did. -/
def bitsEncodesSpec : ChangeSpec := { name := "bitsEncodes", fn := fun _ => fun
  | [d1, d2, d3, d4] => { results := [.lit (.bool true)], args := [d1, d2, d3, d4] }
  | _ => none }
def bitsEncodesRow : OpenClaim := { program := "ytijccfblenmfcaa", sum := "0406d2e73803dc4f571831e8fbbbfe400b1e6aa044dd8fbf5ba449818f2b7bba", func := "posthorn/posthornlaw01.BitsEncodes", spec := "bitsEncodes", inPlace := ["internal/abi.NoEscape", "internal/bytealg.IndexByteString"], apart := false }
def BitsEncodesSaid : Prop := bitsEncodesRow.holds Try.pinned (OpenSpec.ofChange bitsEncodesSpec)

/-- ITS FALSE NEIGHBOUR: 'it returns false'. Refute it at one input. -/
def bitsEncodesWrong : ChangeSpec := { name := "bitsEncodes", fn := fun _ => fun
  | [d1, d2, d3, d4] => { results := [.lit (.bool false)], args := [d1, d2, d3, d4] }
  | _ => none }
def BitsEncodesWrongFalsely : Prop := bitsEncodesRow.holds Try.pinned (OpenSpec.ofChange bitsEncodesWrong)

/- THE SECOND FORM. 'bulk': how many values and letters a reading holds, each counted each time it is reached (what is shared counts as often as it is met; a slice's spare places count too). A statement '..UptoSaid' is the law's where the arguments, and the package variables that the reading takes, are together of bulk at most 1048576: NARROWER than '..Said'. Prove '..Said' where nothing that the law and all that it calls make is longer than what came in: it says more and counts as full. Else prove '..UptoSaid'. A law counts once. -/
mutual
def uptoBulk {H : Type} : DataW H → Nat
  | .lit (.string bytes) => bytes.length + 1
  | .lit _ => 1
  | .nil => 1
  | .ptr d => uptoBulk d + 1
  | .slice elems spare => uptoBulkAll elems + uptoBulkAll spare + 1
  | .agg parts => uptoBulkAll parts + 1
  | .iface _ d => uptoBulk d + 1
  | .map entries => uptoBulkEntries entries + 1
  | .held _ => 1
def uptoBulkAll {H : Type} : List (DataW H) → Nat
  | [] => 0
  | d :: r => uptoBulk d + uptoBulkAll r
def uptoBulkEntries {H : Type} : List (Lit × DataW H) → Nat
  | [] => 0
  | x :: r => uptoBulkEntry x + uptoBulkEntries r
def uptoBulkEntry {H : Type} : Lit × DataW H → Nat
  | (.string bytes, d) => bytes.length + uptoBulk d + 1
  | (_, d) => uptoBulk d + 1
 end
def uptoSmall : (H : Type) → List (DataW H) → Bool := fun _ ds => decide (uptoBulkAll ds ≤ 1048576)
def OpenSpec.upto (s : _root_.Go.ChangeSpec) : _root_.Go.OpenSpec := { _root_.Go.OpenSpec.ofChange s with cond := some uptoSmall }

/-- 'posthornlaw01.BitsDecodes', WHERE WHAT IT READS IS OF BULK AT MOST 1048576: true; the input reads as it did. -/
def bitsDecodesUptoRow : OpenClaim := { program := "ytijccfblenmfcaa", sum := "0406d2e73803dc4f571831e8fbbbfe400b1e6aa044dd8fbf5ba449818f2b7bba", func := "posthorn/posthornlaw01.BitsDecodes", spec := "bitsDecodes", inPlace := ["internal/abi.NoEscape", "internal/bytealg.IndexByteString"], apart := false, narrowed := true }
def BitsDecodesUptoSaid : Prop := bitsDecodesUptoRow.holds Try.pinned (OpenSpec.upto bitsDecodesSpec)

/-- 'posthornlaw01.BitsBack', WHERE WHAT IT READS IS OF BULK AT MOST 1048576: true; the input reads as it did. -/
def bitsBackUptoRow : OpenClaim := { program := "ytijccfblenmfcaa", sum := "0406d2e73803dc4f571831e8fbbbfe400b1e6aa044dd8fbf5ba449818f2b7bba", func := "posthorn/posthornlaw01.BitsBack", spec := "bitsBack", inPlace := ["internal/abi.NoEscape", "internal/bytealg.IndexByteString"], apart := false, narrowed := true }
def BitsBackUptoSaid : Prop := bitsBackUptoRow.holds Try.pinned (OpenSpec.upto bitsBackSpec)

/-- 'posthornlaw01.BitsOnce', WHERE WHAT IT READS IS OF BULK AT MOST 1048576: true; the input reads as it did. -/
def bitsOnceUptoRow : OpenClaim := { program := "ytijccfblenmfcaa", sum := "0406d2e73803dc4f571831e8fbbbfe400b1e6aa044dd8fbf5ba449818f2b7bba", func := "posthorn/posthornlaw01.BitsOnce", spec := "bitsOnce", inPlace := ["internal/abi.NoEscape", "internal/bytealg.IndexByteString"], apart := false, narrowed := true }
def BitsOnceUptoSaid : Prop := bitsOnceUptoRow.holds Try.pinned (OpenSpec.upto bitsOnceSpec)

/-- 'posthornlaw01.BitsLines', WHERE WHAT IT READS IS OF BULK AT MOST 1048576: true; the input reads as it did. -/
def bitsLinesUptoRow : OpenClaim := { program := "ytijccfblenmfcaa", sum := "0406d2e73803dc4f571831e8fbbbfe400b1e6aa044dd8fbf5ba449818f2b7bba", func := "posthorn/posthornlaw01.BitsLines", spec := "bitsLines", inPlace := ["internal/abi.NoEscape", "internal/bytealg.IndexByteString"], apart := false, narrowed := true }
def BitsLinesUptoSaid : Prop := bitsLinesUptoRow.holds Try.pinned (OpenSpec.upto bitsLinesSpec)

/-- 'posthornlaw01.BitsJoins', WHERE WHAT IT READS IS OF BULK AT MOST 1048576: true; the input reads as it did. -/
def bitsJoinsUptoRow : OpenClaim := { program := "ytijccfblenmfcaa", sum := "0406d2e73803dc4f571831e8fbbbfe400b1e6aa044dd8fbf5ba449818f2b7bba", func := "posthorn/posthornlaw01.BitsJoins", spec := "bitsJoins", inPlace := ["internal/abi.NoEscape", "internal/bytealg.IndexByteString"], apart := false, narrowed := true }
def BitsJoinsUptoSaid : Prop := bitsJoinsUptoRow.holds Try.pinned (OpenSpec.upto bitsJoinsSpec)

/-- 'posthornlaw01.BitsEncodes', WHERE WHAT IT READS IS OF BULK AT MOST 1048576: true; the input reads as it did. -/
def bitsEncodesUptoRow : OpenClaim := { program := "ytijccfblenmfcaa", sum := "0406d2e73803dc4f571831e8fbbbfe400b1e6aa044dd8fbf5ba449818f2b7bba", func := "posthorn/posthornlaw01.BitsEncodes", spec := "bitsEncodes", inPlace := ["internal/abi.NoEscape", "internal/bytealg.IndexByteString"], apart := false, narrowed := true }
def BitsEncodesUptoSaid : Prop := bitsEncodesUptoRow.holds Try.pinned (OpenSpec.upto bitsEncodesSpec)

end Rows
end Go.Proofs.Ytijccfblenmfcaa
