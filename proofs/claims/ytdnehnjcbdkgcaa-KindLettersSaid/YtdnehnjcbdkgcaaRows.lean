/-
  No cell of these rows narrows 'for every input' (looked for: loops, veiled, ifaces, maps, wideKeys, modest, calm, conditions, laid).
  DERIVED. THE GIVEN ROWS OF THIS SEAT. 5 by the template 'for every input the law returns true; each argument reads behind the call as it read before'; 0 by the template 'total and deterministic' (their statements: YtdnehnjcbdkgcaaTotals.lean).
  GIVEN WITH THE SEED: the statements are not yours to turn. If you find one false, say at which input.
  Laid BY PROGRAM, IN A SANDBOX (cutbox-rows.mjs): the forced cells as the released guide's own fill.sh prints them over the translation 0a496134e845a019… (all of the seat's roots in one cut). By AI agents, Wed Nov 11 2026. No macro, syntax, notation, axiom, sorry.
-/
import Derived.Test.YtdnehnjcbdkgcaaChecked
import GoSem.Claim
import GoSem.ClaimJoined
import GoSem.ClaimMapViews
import Derived.JoinedTies
import Derived.KernelRfl
namespace Go.Proofs.Ytdnehnjcbdkgcaa
/- THE CELL 'sum', in the pinned program and in every row, IS THE sha256 OF THE DUMP (.gsa) THAT YtdnehnjcbdkgcaaProg.lean LOADS. Nothing in Lean hashes anything: it is a label: what it is worth is what the hold of that sum in a sandbox is worth. -/
noncomputable def Try.pinned : Pinned := { name := "ytdnehnjcbdkgcaa", sum := "0a496134e845a019a6b83051ed959071d6990fbee89d9bea90c682ea36520bdb", checked := Try.checked }
namespace Rows
def none {H : Type} : Left H := { results := [], args := [] }

/-- 'posthornlaw08.KindReads': WHATEVER THE INPUT: true; the input reads as it did. -/
def kindReadsSpec : ChangeSpec := { name := "kindReads", fn := fun _ => fun
  | [d] => { results := [.lit (.bool true)], args := [d] }
  | _ => none }
def kindReadsRow : OpenClaim := { program := "ytdnehnjcbdkgcaa", sum := "0a496134e845a019a6b83051ed959071d6990fbee89d9bea90c682ea36520bdb", func := "posthorn/posthornlaw08.KindReads", spec := "kindReads", inPlace := ["internal/bytealg.IndexByteString"], apart := false }
def KindReadsSaid : Prop := kindReadsRow.holds Try.pinned (OpenSpec.ofChange kindReadsSpec)

/-- ITS FALSE NEIGHBOUR: 'it returns false'. Refute it at one input. -/
def kindReadsWrong : ChangeSpec := { name := "kindReads", fn := fun _ => fun
  | [d] => { results := [.lit (.bool false)], args := [d] }
  | _ => none }
def KindReadsWrongFalsely : Prop := kindReadsRow.holds Try.pinned (OpenSpec.ofChange kindReadsWrong)

/-- 'posthornlaw08.KindWrites': WHATEVER THE INPUT: true; the input reads as it did. -/
def kindWritesSpec : ChangeSpec := { name := "kindWrites", fn := fun _ => fun
  | [d1, d2, d3] => { results := [.lit (.bool true)], args := [d1, d2, d3] }
  | _ => none }
def kindWritesRow : OpenClaim := { program := "ytdnehnjcbdkgcaa", sum := "0a496134e845a019a6b83051ed959071d6990fbee89d9bea90c682ea36520bdb", func := "posthorn/posthornlaw08.KindWrites", spec := "kindWrites", inPlace := ["internal/bytealg.IndexByteString", "internal/abi.NoEscape"], apart := false }
def KindWritesSaid : Prop := kindWritesRow.holds Try.pinned (OpenSpec.ofChange kindWritesSpec)

/-- ITS FALSE NEIGHBOUR: 'it returns false'. Refute it at one input. -/
def kindWritesWrong : ChangeSpec := { name := "kindWrites", fn := fun _ => fun
  | [d1, d2, d3] => { results := [.lit (.bool false)], args := [d1, d2, d3] }
  | _ => none }
def KindWritesWrongFalsely : Prop := kindWritesRow.holds Try.pinned (OpenSpec.ofChange kindWritesWrong)

/-- 'posthornlaw08.KindBack': WHATEVER THE INPUT: true; the input reads as it did. -/
def kindBackSpec : ChangeSpec := { name := "kindBack", fn := fun _ => fun
  | [d1, d2] => { results := [.lit (.bool true)], args := [d1, d2] }
  | _ => none }
def kindBackRow : OpenClaim := { program := "ytdnehnjcbdkgcaa", sum := "0a496134e845a019a6b83051ed959071d6990fbee89d9bea90c682ea36520bdb", func := "posthorn/posthornlaw08.KindBack", spec := "kindBack", inPlace := ["internal/bytealg.IndexByteString", "internal/abi.NoEscape"], apart := false }
def KindBackSaid : Prop := kindBackRow.holds Try.pinned (OpenSpec.ofChange kindBackSpec)

/-- ITS FALSE NEIGHBOUR: 'it returns false'. Refute it at one input. -/
def kindBackWrong : ChangeSpec := { name := "kindBack", fn := fun _ => fun
  | [d1, d2] => { results := [.lit (.bool false)], args := [d1, d2] }
  | _ => none }
def KindBackWrongFalsely : Prop := kindBackRow.holds Try.pinned (OpenSpec.ofChange kindBackWrong)

/-- 'posthornlaw08.KindRight': WHATEVER THE INPUT: true; the input reads as it did. -/
def kindRightSpec : ChangeSpec := { name := "kindRight", fn := fun _ => fun
  | [d] => { results := [.lit (.bool true)], args := [d] }
  | _ => none }
def kindRightRow : OpenClaim := { program := "ytdnehnjcbdkgcaa", sum := "0a496134e845a019a6b83051ed959071d6990fbee89d9bea90c682ea36520bdb", func := "posthorn/posthornlaw08.KindRight", spec := "kindRight", inPlace := ["internal/bytealg.IndexByteString", "internal/abi.NoEscape"], apart := false }
def KindRightSaid : Prop := kindRightRow.holds Try.pinned (OpenSpec.ofChange kindRightSpec)

/-- ITS FALSE NEIGHBOUR: 'it returns false'. Refute it at one input. -/
def kindRightWrong : ChangeSpec := { name := "kindRight", fn := fun _ => fun
  | [d] => { results := [.lit (.bool false)], args := [d] }
  | _ => none }
def KindRightWrongFalsely : Prop := kindRightRow.holds Try.pinned (OpenSpec.ofChange kindRightWrong)

/-- 'posthornlaw08.KindLetters': WHATEVER THE INPUT: true; the input reads as it did. -/
def kindLettersSpec : ChangeSpec := { name := "kindLetters", fn := fun _ => fun
  | [d] => { results := [.lit (.bool true)], args := [d] }
  | _ => none }
def kindLettersRow : OpenClaim := { program := "ytdnehnjcbdkgcaa", sum := "0a496134e845a019a6b83051ed959071d6990fbee89d9bea90c682ea36520bdb", func := "posthorn/posthornlaw08.KindLetters", spec := "kindLetters", inPlace := ["internal/bytealg.IndexByteString", "internal/abi.NoEscape"], unfollowed := true, recurses := true, apart := false }
def KindLettersSaid : Prop := kindLettersRow.holds Try.pinned (OpenSpec.ofChange kindLettersSpec)

/-- ITS FALSE NEIGHBOUR: 'it returns false'. Refute it at one input. -/
def kindLettersWrong : ChangeSpec := { name := "kindLetters", fn := fun _ => fun
  | [d] => { results := [.lit (.bool false)], args := [d] }
  | _ => none }
def KindLettersWrongFalsely : Prop := kindLettersRow.holds Try.pinned (OpenSpec.ofChange kindLettersWrong)

/- THE SECOND FORM. 'bulk': how many values and letters a reading holds, each counted each time it is reached (what is shared counts as often as it is met; a slice's spare places count too). A statement '..UptoSaid' is the law's where the arguments, and the package variables that the reading takes, are together of bulk at most 1048576: NARROWER than '..Said'. Prove '..Said' where nothing that the law and all that it calls make is longer than what came in: it says more and counts as full. Else prove '..UptoSaid'. A law counts once. -/
mutual
def uptoBulk {H : Type} : DataW H → Nat
  | .lit (.string bytes) => bytes.length + 1
  | .lit _ => 1
  | .nil => 1
  | .ptr d => uptoBulk d + 1
  | .slice elems spare => uptoBulkAll elems + uptoBulkAll spare + 1
  | .agg parts => uptoBulkAll parts + 1
  | .iface _ d => uptoBulk d + 1
  | .map entries => uptoBulkEntries entries + 1
  | .held _ => 1
def uptoBulkAll {H : Type} : List (DataW H) → Nat
  | [] => 0
  | d :: r => uptoBulk d + uptoBulkAll r
def uptoBulkEntries {H : Type} : List (Lit × DataW H) → Nat
  | [] => 0
  | x :: r => uptoBulkEntry x + uptoBulkEntries r
def uptoBulkEntry {H : Type} : Lit × DataW H → Nat
  | (.string bytes, d) => bytes.length + uptoBulk d + 1
  | (_, d) => uptoBulk d + 1
 end
def uptoSmall : (H : Type) → List (DataW H) → Bool := fun _ ds => decide (uptoBulkAll ds ≤ 1048576)
def OpenSpec.upto (s : _root_.Go.ChangeSpec) : _root_.Go.OpenSpec := { _root_.Go.OpenSpec.ofChange s with cond := some uptoSmall }

/-- 'posthornlaw08.KindReads', WHERE WHAT IT READS IS OF BULK AT MOST 1048576: true; the input reads as it did. -/
def kindReadsUptoRow : OpenClaim := { program := "ytdnehnjcbdkgcaa", sum := "0a496134e845a019a6b83051ed959071d6990fbee89d9bea90c682ea36520bdb", func := "posthorn/posthornlaw08.KindReads", spec := "kindReads", inPlace := ["internal/bytealg.IndexByteString"], apart := false, narrowed := true }
def KindReadsUptoSaid : Prop := kindReadsUptoRow.holds Try.pinned (OpenSpec.upto kindReadsSpec)

/-- 'posthornlaw08.KindWrites', WHERE WHAT IT READS IS OF BULK AT MOST 1048576: true; the input reads as it did. -/
def kindWritesUptoRow : OpenClaim := { program := "ytdnehnjcbdkgcaa", sum := "0a496134e845a019a6b83051ed959071d6990fbee89d9bea90c682ea36520bdb", func := "posthorn/posthornlaw08.KindWrites", spec := "kindWrites", inPlace := ["internal/bytealg.IndexByteString", "internal/abi.NoEscape"], apart := false, narrowed := true }
def KindWritesUptoSaid : Prop := kindWritesUptoRow.holds Try.pinned (OpenSpec.upto kindWritesSpec)

/-- 'posthornlaw08.KindBack', WHERE WHAT IT READS IS OF BULK AT MOST 1048576: true; the input reads as it did. -/
def kindBackUptoRow : OpenClaim := { program := "ytdnehnjcbdkgcaa", sum := "0a496134e845a019a6b83051ed959071d6990fbee89d9bea90c682ea36520bdb", func := "posthorn/posthornlaw08.KindBack", spec := "kindBack", inPlace := ["internal/bytealg.IndexByteString", "internal/abi.NoEscape"], apart := false, narrowed := true }
def KindBackUptoSaid : Prop := kindBackUptoRow.holds Try.pinned (OpenSpec.upto kindBackSpec)

/-- 'posthornlaw08.KindRight', WHERE WHAT IT READS IS OF BULK AT MOST 1048576: true; the input reads as it did. -/
def kindRightUptoRow : OpenClaim := { program := "ytdnehnjcbdkgcaa", sum := "0a496134e845a019a6b83051ed959071d6990fbee89d9bea90c682ea36520bdb", func := "posthorn/posthornlaw08.KindRight", spec := "kindRight", inPlace := ["internal/bytealg.IndexByteString", "internal/abi.NoEscape"], apart := false, narrowed := true }
def KindRightUptoSaid : Prop := kindRightUptoRow.holds Try.pinned (OpenSpec.upto kindRightSpec)

/-- 'posthornlaw08.KindLetters', WHERE WHAT IT READS IS OF BULK AT MOST 1048576: true; the input reads as it did. -/
def kindLettersUptoRow : OpenClaim := { program := "ytdnehnjcbdkgcaa", sum := "0a496134e845a019a6b83051ed959071d6990fbee89d9bea90c682ea36520bdb", func := "posthorn/posthornlaw08.KindLetters", spec := "kindLetters", inPlace := ["internal/bytealg.IndexByteString", "internal/abi.NoEscape"], unfollowed := true, recurses := true, apart := false, narrowed := true }
def KindLettersUptoSaid : Prop := kindLettersUptoRow.holds Try.pinned (OpenSpec.upto kindLettersSpec)

end Rows
end Go.Proofs.Ytdnehnjcbdkgcaa
