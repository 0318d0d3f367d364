/-
  No cell of these rows narrows 'for every input' (looked for: loops, veiled, ifaces, maps, wideKeys, modest, calm, conditions, laid).
  DERIVED. THE GIVEN ROWS OF THIS SEAT. 6 by the template 'for every input the law returns true; each argument reads behind the call as it read before'; 0 by the template 'total and deterministic' (their statements: YtpbgpbblbohmgaaTotals.lean).
  GIVEN WITH THE SEED: the statements are not yours to turn. If you find one false, say at which input.
  Laid BY PROGRAM, IN A SANDBOX (cutbox-rows.mjs): the forced cells as the released guide's own fill.sh prints them over the translation 0529eca7cd764438… (all of the seat's roots in one cut). By AI agents, Wed Nov 11 2026. No macro, syntax, notation, axiom, sorry.
-/
import Derived.Test.YtpbgpbblbohmgaaChecked
import GoSem.Claim
import GoSem.ClaimJoined
import GoSem.ClaimMapViews
import Derived.JoinedTies
import Derived.KernelRfl
namespace Go.Proofs.Ytpbgpbblbohmgaa
/- THE CELL 'sum', in the pinned program and in every row, IS THE sha256 OF THE DUMP (.gsa) THAT YtpbgpbblbohmgaaProg.lean LOADS. Nothing in Lean hashes anything: it is a label: what it is worth is what the hold of that sum in a sandbox is worth. -/
noncomputable def Try.pinned : Pinned := { name := "ytpbgpbblbohmgaa", sum := "0529eca7cd764438bafc11298476c09bcbf4e1da99addec494782070cef46223", checked := Try.checked }
namespace Rows
def none {H : Type} : Left H := { results := [], args := [] }

/-- 'posthornlaw18.CharsetDecodes': WHATEVER THE INPUT: true; the input reads as it did. -/
def charsetDecodesSpec : ChangeSpec := { name := "charsetDecodes", fn := fun _ => fun
  | [d1, d2] => { results := [.lit (.bool true)], args := [d1, d2] }
  | _ => none }
def charsetDecodesRow : OpenClaim := { program := "ytpbgpbblbohmgaa", sum := "0529eca7cd764438bafc11298476c09bcbf4e1da99addec494782070cef46223", func := "posthorn/posthornlaw18.CharsetDecodes", spec := "charsetDecodes", unfollowed := true, recurses := true, apart := false }
def CharsetDecodesSaid : Prop := charsetDecodesRow.holds Try.pinned (OpenSpec.ofChange charsetDecodesSpec)

/-- ITS FALSE NEIGHBOUR: 'it returns false'. Refute it at one input. -/
def charsetDecodesWrong : ChangeSpec := { name := "charsetDecodes", fn := fun _ => fun
  | [d1, d2] => { results := [.lit (.bool false)], args := [d1, d2] }
  | _ => none }
def CharsetDecodesWrongFalsely : Prop := charsetDecodesRow.holds Try.pinned (OpenSpec.ofChange charsetDecodesWrong)

/-- 'posthornlaw18.CharsetBack': WHATEVER THE INPUT: true; the input reads as it did. -/
def charsetBackSpec : ChangeSpec := { name := "charsetBack", fn := fun _ => fun
  | [d1, d2] => { results := [.lit (.bool true)], args := [d1, d2] }
  | _ => none }
def charsetBackRow : OpenClaim := { program := "ytpbgpbblbohmgaa", sum := "0529eca7cd764438bafc11298476c09bcbf4e1da99addec494782070cef46223", func := "posthorn/posthornlaw18.CharsetBack", spec := "charsetBack", unfollowed := true, recurses := true, apart := false }
def CharsetBackSaid : Prop := charsetBackRow.holds Try.pinned (OpenSpec.ofChange charsetBackSpec)

/-- ITS FALSE NEIGHBOUR: 'it returns false'. Refute it at one input. -/
def charsetBackWrong : ChangeSpec := { name := "charsetBack", fn := fun _ => fun
  | [d1, d2] => { results := [.lit (.bool false)], args := [d1, d2] }
  | _ => none }
def CharsetBackWrongFalsely : Prop := charsetBackRow.holds Try.pinned (OpenSpec.ofChange charsetBackWrong)

/-- 'posthornlaw18.CharsetAscii': WHATEVER THE INPUT: true; the input reads as it did. -/
def charsetAsciiSpec : ChangeSpec := { name := "charsetAscii", fn := fun _ => fun
  | [d1, d2] => { results := [.lit (.bool true)], args := [d1, d2] }
  | _ => none }
def charsetAsciiRow : OpenClaim := { program := "ytpbgpbblbohmgaa", sum := "0529eca7cd764438bafc11298476c09bcbf4e1da99addec494782070cef46223", func := "posthorn/posthornlaw18.CharsetAscii", spec := "charsetAscii", unfollowed := true, recurses := true, apart := false }
def CharsetAsciiSaid : Prop := charsetAsciiRow.holds Try.pinned (OpenSpec.ofChange charsetAsciiSpec)

/-- ITS FALSE NEIGHBOUR: 'it returns false'. Refute it at one input. -/
def charsetAsciiWrong : ChangeSpec := { name := "charsetAscii", fn := fun _ => fun
  | [d1, d2] => { results := [.lit (.bool false)], args := [d1, d2] }
  | _ => none }
def CharsetAsciiWrongFalsely : Prop := charsetAsciiRow.holds Try.pinned (OpenSpec.ofChange charsetAsciiWrong)

/-- 'posthornlaw18.CharsetWide': WHATEVER THE INPUT: true; the input reads as it did. -/
def charsetWideSpec : ChangeSpec := { name := "charsetWide", fn := fun _ => fun
  | [d] => { results := [.lit (.bool true)], args := [d] }
  | _ => none }
def charsetWideRow : OpenClaim := { program := "ytpbgpbblbohmgaa", sum := "0529eca7cd764438bafc11298476c09bcbf4e1da99addec494782070cef46223", func := "posthorn/posthornlaw18.CharsetWide", spec := "charsetWide", unfollowed := true, recurses := true, apart := false }
def CharsetWideSaid : Prop := charsetWideRow.holds Try.pinned (OpenSpec.ofChange charsetWideSpec)

/-- ITS FALSE NEIGHBOUR: 'it returns false'. Refute it at one input. -/
def charsetWideWrong : ChangeSpec := { name := "charsetWide", fn := fun _ => fun
  | [d] => { results := [.lit (.bool false)], args := [d] }
  | _ => none }
def CharsetWideWrongFalsely : Prop := charsetWideRow.holds Try.pinned (OpenSpec.ofChange charsetWideWrong)

/-- 'posthornlaw18.CharsetBytes': WHATEVER THE INPUT: true; the input reads as it did. -/
def charsetBytesSpec : ChangeSpec := { name := "charsetBytes", fn := fun _ => fun
  | [d1, d2] => { results := [.lit (.bool true)], args := [d1, d2] }
  | _ => none }
def charsetBytesRow : OpenClaim := { program := "ytpbgpbblbohmgaa", sum := "0529eca7cd764438bafc11298476c09bcbf4e1da99addec494782070cef46223", func := "posthorn/posthornlaw18.CharsetBytes", spec := "charsetBytes", unfollowed := true, recurses := true, apart := false }
def CharsetBytesSaid : Prop := charsetBytesRow.holds Try.pinned (OpenSpec.ofChange charsetBytesSpec)

/-- ITS FALSE NEIGHBOUR: 'it returns false'. Refute it at one input. -/
def charsetBytesWrong : ChangeSpec := { name := "charsetBytes", fn := fun _ => fun
  | [d1, d2] => { results := [.lit (.bool false)], args := [d1, d2] }
  | _ => none }
def CharsetBytesWrongFalsely : Prop := charsetBytesRow.holds Try.pinned (OpenSpec.ofChange charsetBytesWrong)

/-- 'posthornlaw18.CharsetEncodes': WHATEVER THE INPUT: true; the input reads as it did. -/
def charsetEncodesSpec : ChangeSpec := { name := "charsetEncodes", fn := fun _ => fun
  | [d1, d2] => { results := [.lit (.bool true)], args := [d1, d2] }
  | _ => none }
def charsetEncodesRow : OpenClaim := { program := "ytpbgpbblbohmgaa", sum := "0529eca7cd764438bafc11298476c09bcbf4e1da99addec494782070cef46223", func := "posthorn/posthornlaw18.CharsetEncodes", spec := "charsetEncodes", unfollowed := true, recurses := true, apart := false }
def CharsetEncodesSaid : Prop := charsetEncodesRow.holds Try.pinned (OpenSpec.ofChange charsetEncodesSpec)

/-- ITS FALSE NEIGHBOUR: 'it returns false'. Refute it at one input. -/
def charsetEncodesWrong : ChangeSpec := { name := "charsetEncodes", fn := fun _ => fun
  | [d1, d2] => { results := [.lit (.bool false)], args := [d1, d2] }
  | _ => none }
def CharsetEncodesWrongFalsely : Prop := charsetEncodesRow.holds Try.pinned (OpenSpec.ofChange charsetEncodesWrong)

/- THE SECOND FORM. 'bulk': how many values and letters a reading holds, each counted each time it is reached (what is shared counts as often as it is met; a slice's spare places count too). A statement '..UptoSaid' is the law's where the arguments, and the package variables that the reading takes, are together of bulk at most 1048576: NARROWER than '..Said'. Prove '..Said' where nothing that the law and all that it calls make is longer than what came in: it says more and counts as full. Else prove '..UptoSaid'. A law counts once. -/
mutual
def uptoBulk {H : Type} : DataW H → Nat
  | .lit (.string bytes) => bytes.length + 1
  | .lit _ => 1
  | .nil => 1
  | .ptr d => uptoBulk d + 1
  | .slice elems spare => uptoBulkAll elems + uptoBulkAll spare + 1
  | .agg parts => uptoBulkAll parts + 1
  | .iface _ d => uptoBulk d + 1
  | .map entries => uptoBulkEntries entries + 1
  | .held _ => 1
def uptoBulkAll {H : Type} : List (DataW H) → Nat
  | [] => 0
  | d :: r => uptoBulk d + uptoBulkAll r
def uptoBulkEntries {H : Type} : List (Lit × DataW H) → Nat
  | [] => 0
  | x :: r => uptoBulkEntry x + uptoBulkEntries r
def uptoBulkEntry {H : Type} : Lit × DataW H → Nat
  | (.string bytes, d) => bytes.length + uptoBulk d + 1
  | (_, d) => uptoBulk d + 1
 end
def uptoSmall : (H : Type) → List (DataW H) → Bool := fun _ ds => decide (uptoBulkAll ds ≤ 1048576)
def OpenSpec.upto (s : _root_.Go.ChangeSpec) : _root_.Go.OpenSpec := { _root_.Go.OpenSpec.ofChange s with cond := some uptoSmall }

/-- 'posthornlaw18.CharsetDecodes', WHERE WHAT IT READS IS OF BULK AT MOST 1048576: true; the input reads as it did. -/
def charsetDecodesUptoRow : OpenClaim := { program := "ytpbgpbblbohmgaa", sum := "0529eca7cd764438bafc11298476c09bcbf4e1da99addec494782070cef46223", func := "posthorn/posthornlaw18.CharsetDecodes", spec := "charsetDecodes", unfollowed := true, recurses := true, apart := false, narrowed := true }
def CharsetDecodesUptoSaid : Prop := charsetDecodesUptoRow.holds Try.pinned (OpenSpec.upto charsetDecodesSpec)

/-- 'posthornlaw18.CharsetBack', WHERE WHAT IT READS IS OF BULK AT MOST 1048576: true; the input reads as it did. -/
def charsetBackUptoRow : OpenClaim := { program := "ytpbgpbblbohmgaa", sum := "0529eca7cd764438bafc11298476c09bcbf4e1da99addec494782070cef46223", func := "posthorn/posthornlaw18.CharsetBack", spec := "charsetBack", unfollowed := true, recurses := true, apart := false, narrowed := true }
def CharsetBackUptoSaid : Prop := charsetBackUptoRow.holds Try.pinned (OpenSpec.upto charsetBackSpec)

/-- 'posthornlaw18.CharsetAscii', WHERE WHAT IT READS IS OF BULK AT MOST 1048576: true; the input reads as it did. -/
def charsetAsciiUptoRow : OpenClaim := { program := "ytpbgpbblbohmgaa", sum := "0529eca7cd764438bafc11298476c09bcbf4e1da99addec494782070cef46223", func := "posthorn/posthornlaw18.CharsetAscii", spec := "charsetAscii", unfollowed := true, recurses := true, apart := false, narrowed := true }
def CharsetAsciiUptoSaid : Prop := charsetAsciiUptoRow.holds Try.pinned (OpenSpec.upto charsetAsciiSpec)

/-- 'posthornlaw18.CharsetWide', WHERE WHAT IT READS IS OF BULK AT MOST 1048576: true; the input reads as it did. -/
def charsetWideUptoRow : OpenClaim := { program := "ytpbgpbblbohmgaa", sum := "0529eca7cd764438bafc11298476c09bcbf4e1da99addec494782070cef46223", func := "posthorn/posthornlaw18.CharsetWide", spec := "charsetWide", unfollowed := true, recurses := true, apart := false, narrowed := true }
def CharsetWideUptoSaid : Prop := charsetWideUptoRow.holds Try.pinned (OpenSpec.upto charsetWideSpec)

/-- 'posthornlaw18.CharsetBytes', WHERE WHAT IT READS IS OF BULK AT MOST 1048576: true; the input reads as it did. -/
def charsetBytesUptoRow : OpenClaim := { program := "ytpbgpbblbohmgaa", sum := "0529eca7cd764438bafc11298476c09bcbf4e1da99addec494782070cef46223", func := "posthorn/posthornlaw18.CharsetBytes", spec := "charsetBytes", unfollowed := true, recurses := true, apart := false, narrowed := true }
def CharsetBytesUptoSaid : Prop := charsetBytesUptoRow.holds Try.pinned (OpenSpec.upto charsetBytesSpec)

/-- 'posthornlaw18.CharsetEncodes', WHERE WHAT IT READS IS OF BULK AT MOST 1048576: true; the input reads as it did. -/
def charsetEncodesUptoRow : OpenClaim := { program := "ytpbgpbblbohmgaa", sum := "0529eca7cd764438bafc11298476c09bcbf4e1da99addec494782070cef46223", func := "posthorn/posthornlaw18.CharsetEncodes", spec := "charsetEncodes", unfollowed := true, recurses := true, apart := false, narrowed := true }
def CharsetEncodesUptoSaid : Prop := charsetEncodesUptoRow.holds Try.pinned (OpenSpec.upto charsetEncodesSpec)

end Rows
end Go.Proofs.Ytpbgpbblbohmgaa
