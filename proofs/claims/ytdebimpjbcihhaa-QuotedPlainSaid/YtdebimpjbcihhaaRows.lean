/-
  No cell of these rows narrows 'for every input' (looked for: loops, veiled, ifaces, maps, wideKeys, modest, calm, conditions, laid).
  DERIVED. THE GIVEN ROWS OF THIS SEAT. 6 by the template 'for every input the law returns true; each argument reads behind the call as it read before'; 0 by the template 'total and deterministic' (their statements: YtdebimpjbcihhaaTotals.lean).
  GIVEN WITH THE SEED: the statements are not yours to turn. If you find one false, say at which input.
  Laid BY PROGRAM, IN A SANDBOX (cutbox-rows.mjs): the forced cells as the released guide's own fill.sh prints them over the translation e209ce28c865f7fb… (all of the seat's roots in one cut). By AI agents, Wed Nov 11 2026. No macro, syntax, notation, axiom, sorry.
-/
import Derived.Test.YtdebimpjbcihhaaChecked
import GoSem.Claim
import GoSem.ClaimJoined
import GoSem.ClaimMapViews
import Derived.JoinedTies
import Derived.KernelRfl
namespace Go.Proofs.Ytdebimpjbcihhaa
/- THE CELL 'sum', in the pinned program and in every row, IS THE sha256 OF THE DUMP (.gsa) THAT YtdebimpjbcihhaaProg.lean LOADS. Nothing in Lean hashes anything: it is a label: what it is worth is what the hold of that sum in a sandbox is worth. -/
noncomputable def Try.pinned : Pinned := { name := "ytdebimpjbcihhaa", sum := "e209ce28c865f7fb595739a328af6fe978f928dc648527b86fec3cff8ba04651", checked := Try.checked }
namespace Rows
def none {H : Type} : Left H := { results := [], args := [] }

/-- 'posthornlaw03.QuotedEncodes': WHATEVER THE INPUT: true; the input reads as it did. -/
def quotedEncodesSpec : ChangeSpec := { name := "quotedEncodes", fn := fun _ => fun
  | [d1, d2, d3] => { results := [.lit (.bool true)], args := [d1, d2, d3] }
  | _ => none }
def quotedEncodesRow : OpenClaim := { program := "ytdebimpjbcihhaa", sum := "e209ce28c865f7fb595739a328af6fe978f928dc648527b86fec3cff8ba04651", func := "posthorn/posthornlaw03.QuotedEncodes", spec := "quotedEncodes", inPlace := ["internal/abi.NoEscape"], unfollowed := true, recurses := true, apart := false }
def QuotedEncodesSaid : Prop := quotedEncodesRow.holds Try.pinned (OpenSpec.ofChange quotedEncodesSpec)

/-- ITS FALSE NEIGHBOUR: 'it returns false'. Refute it at one input. -/
def quotedEncodesWrong : ChangeSpec := { name := "quotedEncodes", fn := fun _ => fun
  | [d1, d2, d3] => { results := [.lit (.bool false)], args := [d1, d2, d3] }
  | _ => none }
def QuotedEncodesWrongFalsely : Prop := quotedEncodesRow.holds Try.pinned (OpenSpec.ofChange quotedEncodesWrong)

/-- 'posthornlaw03.QuotedDecodes': WHATEVER THE INPUT: true; the input reads as it did. -/
def quotedDecodesSpec : ChangeSpec := { name := "quotedDecodes", fn := fun _ => fun
  | [d] => { results := [.lit (.bool true)], args := [d] }
  | _ => none }
def quotedDecodesRow : OpenClaim := { program := "ytdebimpjbcihhaa", sum := "e209ce28c865f7fb595739a328af6fe978f928dc648527b86fec3cff8ba04651", func := "posthorn/posthornlaw03.QuotedDecodes", spec := "quotedDecodes", inPlace := ["internal/abi.NoEscape"], unfollowed := true, recurses := true, apart := false }
def QuotedDecodesSaid : Prop := quotedDecodesRow.holds Try.pinned (OpenSpec.ofChange quotedDecodesSpec)

/-- ITS FALSE NEIGHBOUR: 'it returns false'. Refute it at one input. -/
def quotedDecodesWrong : ChangeSpec := { name := "quotedDecodes", fn := fun _ => fun
  | [d] => { results := [.lit (.bool false)], args := [d] }
  | _ => none }
def QuotedDecodesWrongFalsely : Prop := quotedDecodesRow.holds Try.pinned (OpenSpec.ofChange quotedDecodesWrong)

/-- 'posthornlaw03.QuotedBack': WHATEVER THE INPUT: true; the input reads as it did. -/
def quotedBackSpec : ChangeSpec := { name := "quotedBack", fn := fun _ => fun
  | [d1, d2] => { results := [.lit (.bool true)], args := [d1, d2] }
  | _ => none }
def quotedBackRow : OpenClaim := { program := "ytdebimpjbcihhaa", sum := "e209ce28c865f7fb595739a328af6fe978f928dc648527b86fec3cff8ba04651", func := "posthorn/posthornlaw03.QuotedBack", spec := "quotedBack", inPlace := ["internal/abi.NoEscape"], unfollowed := true, recurses := true, apart := false }
def QuotedBackSaid : Prop := quotedBackRow.holds Try.pinned (OpenSpec.ofChange quotedBackSpec)

/-- ITS FALSE NEIGHBOUR: 'it returns false'. Refute it at one input. -/
def quotedBackWrong : ChangeSpec := { name := "quotedBack", fn := fun _ => fun
  | [d1, d2] => { results := [.lit (.bool false)], args := [d1, d2] }
  | _ => none }
def QuotedBackWrongFalsely : Prop := quotedBackRow.holds Try.pinned (OpenSpec.ofChange quotedBackWrong)

/-- 'posthornlaw03.QuotedLines': WHATEVER THE INPUT: true; the input reads as it did. -/
def quotedLinesSpec : ChangeSpec := { name := "quotedLines", fn := fun _ => fun
  | [d1, d2] => { results := [.lit (.bool true)], args := [d1, d2] }
  | _ => none }
def quotedLinesRow : OpenClaim := { program := "ytdebimpjbcihhaa", sum := "e209ce28c865f7fb595739a328af6fe978f928dc648527b86fec3cff8ba04651", func := "posthorn/posthornlaw03.QuotedLines", spec := "quotedLines", inPlace := ["internal/abi.NoEscape"], unfollowed := true, recurses := true, apart := false }
def QuotedLinesSaid : Prop := quotedLinesRow.holds Try.pinned (OpenSpec.ofChange quotedLinesSpec)

/-- ITS FALSE NEIGHBOUR: 'it returns false'. Refute it at one input. -/
def quotedLinesWrong : ChangeSpec := { name := "quotedLines", fn := fun _ => fun
  | [d1, d2] => { results := [.lit (.bool false)], args := [d1, d2] }
  | _ => none }
def QuotedLinesWrongFalsely : Prop := quotedLinesRow.holds Try.pinned (OpenSpec.ofChange quotedLinesWrong)

/-- 'posthornlaw03.QuotedAgain': WHATEVER THE INPUT: true; the input reads as it did. -/
def quotedAgainSpec : ChangeSpec := { name := "quotedAgain", fn := fun _ => fun
  | [d] => { results := [.lit (.bool true)], args := [d] }
  | _ => none }
def quotedAgainRow : OpenClaim := { program := "ytdebimpjbcihhaa", sum := "e209ce28c865f7fb595739a328af6fe978f928dc648527b86fec3cff8ba04651", func := "posthorn/posthornlaw03.QuotedAgain", spec := "quotedAgain", inPlace := ["internal/abi.NoEscape"], unfollowed := true, recurses := true, apart := false }
def QuotedAgainSaid : Prop := quotedAgainRow.holds Try.pinned (OpenSpec.ofChange quotedAgainSpec)

/-- ITS FALSE NEIGHBOUR: 'it returns false'. Refute it at one input. -/
def quotedAgainWrong : ChangeSpec := { name := "quotedAgain", fn := fun _ => fun
  | [d] => { results := [.lit (.bool false)], args := [d] }
  | _ => none }
def QuotedAgainWrongFalsely : Prop := quotedAgainRow.holds Try.pinned (OpenSpec.ofChange quotedAgainWrong)

/-- 'posthornlaw03.QuotedPlain': WHATEVER THE INPUT: true; the input reads as it did. -/
def quotedPlainSpec : ChangeSpec := { name := "quotedPlain", fn := fun _ => fun
  | [d] => { results := [.lit (.bool true)], args := [d] }
  | _ => none }
def quotedPlainRow : OpenClaim := { program := "ytdebimpjbcihhaa", sum := "e209ce28c865f7fb595739a328af6fe978f928dc648527b86fec3cff8ba04651", func := "posthorn/posthornlaw03.QuotedPlain", spec := "quotedPlain", inPlace := ["internal/abi.NoEscape"], unfollowed := true, recurses := true, apart := false }
def QuotedPlainSaid : Prop := quotedPlainRow.holds Try.pinned (OpenSpec.ofChange quotedPlainSpec)

/-- ITS FALSE NEIGHBOUR: 'it returns false'. Refute it at one input. -/
def quotedPlainWrong : ChangeSpec := { name := "quotedPlain", fn := fun _ => fun
  | [d] => { results := [.lit (.bool false)], args := [d] }
  | _ => none }
def QuotedPlainWrongFalsely : Prop := quotedPlainRow.holds Try.pinned (OpenSpec.ofChange quotedPlainWrong)

/- THE SECOND FORM. 'bulk': how many values and letters a reading holds, each counted each time it is reached (what is shared counts as often as it is met; a slice's spare places count too). A statement '..UptoSaid' is the law's where the arguments, and the package variables that the reading takes, are together of bulk at most 1048576: NARROWER than '..Said'. Prove '..Said' where nothing that the law and all that it calls make is longer than what came in: it says more and counts as full. Else prove '..UptoSaid'. A law counts once. -/
mutual
def uptoBulk {H : Type} : DataW H → Nat
  | .lit (.string bytes) => bytes.length + 1
  | .lit _ => 1
  | .nil => 1
  | .ptr d => uptoBulk d + 1
  | .slice elems spare => uptoBulkAll elems + uptoBulkAll spare + 1
  | .agg parts => uptoBulkAll parts + 1
  | .iface _ d => uptoBulk d + 1
  | .map entries => uptoBulkEntries entries + 1
  | .held _ => 1
def uptoBulkAll {H : Type} : List (DataW H) → Nat
  | [] => 0
  | d :: r => uptoBulk d + uptoBulkAll r
def uptoBulkEntries {H : Type} : List (Lit × DataW H) → Nat
  | [] => 0
  | x :: r => uptoBulkEntry x + uptoBulkEntries r
def uptoBulkEntry {H : Type} : Lit × DataW H → Nat
  | (.string bytes, d) => bytes.length + uptoBulk d + 1
  | (_, d) => uptoBulk d + 1
 end
def uptoSmall : (H : Type) → List (DataW H) → Bool := fun _ ds => decide (uptoBulkAll ds ≤ 1048576)
def OpenSpec.upto (s : _root_.Go.ChangeSpec) : _root_.Go.OpenSpec := { _root_.Go.OpenSpec.ofChange s with cond := some uptoSmall }

/-- 'posthornlaw03.QuotedEncodes', WHERE WHAT IT READS IS OF BULK AT MOST 1048576: true; the input reads as it did. -/
def quotedEncodesUptoRow : OpenClaim := { program := "ytdebimpjbcihhaa", sum := "e209ce28c865f7fb595739a328af6fe978f928dc648527b86fec3cff8ba04651", func := "posthorn/posthornlaw03.QuotedEncodes", spec := "quotedEncodes", inPlace := ["internal/abi.NoEscape"], unfollowed := true, recurses := true, apart := false, narrowed := true }
def QuotedEncodesUptoSaid : Prop := quotedEncodesUptoRow.holds Try.pinned (OpenSpec.upto quotedEncodesSpec)

/-- 'posthornlaw03.QuotedDecodes', WHERE WHAT IT READS IS OF BULK AT MOST 1048576: true; the input reads as it did. -/
def quotedDecodesUptoRow : OpenClaim := { program := "ytdebimpjbcihhaa", sum := "e209ce28c865f7fb595739a328af6fe978f928dc648527b86fec3cff8ba04651", func := "posthorn/posthornlaw03.QuotedDecodes", spec := "quotedDecodes", inPlace := ["internal/abi.NoEscape"], unfollowed := true, recurses := true, apart := false, narrowed := true }
def QuotedDecodesUptoSaid : Prop := quotedDecodesUptoRow.holds Try.pinned (OpenSpec.upto quotedDecodesSpec)

/-- 'posthornlaw03.QuotedBack', WHERE WHAT IT READS IS OF BULK AT MOST 1048576: true; the input reads as it did. -/
def quotedBackUptoRow : OpenClaim := { program := "ytdebimpjbcihhaa", sum := "e209ce28c865f7fb595739a328af6fe978f928dc648527b86fec3cff8ba04651", func := "posthorn/posthornlaw03.QuotedBack", spec := "quotedBack", inPlace := ["internal/abi.NoEscape"], unfollowed := true, recurses := true, apart := false, narrowed := true }
def QuotedBackUptoSaid : Prop := quotedBackUptoRow.holds Try.pinned (OpenSpec.upto quotedBackSpec)

/-- 'posthornlaw03.QuotedLines', WHERE WHAT IT READS IS OF BULK AT MOST 1048576: true; the input reads as it did. -/
def quotedLinesUptoRow : OpenClaim := { program := "ytdebimpjbcihhaa", sum := "e209ce28c865f7fb595739a328af6fe978f928dc648527b86fec3cff8ba04651", func := "posthorn/posthornlaw03.QuotedLines", spec := "quotedLines", inPlace := ["internal/abi.NoEscape"], unfollowed := true, recurses := true, apart := false, narrowed := true }
def QuotedLinesUptoSaid : Prop := quotedLinesUptoRow.holds Try.pinned (OpenSpec.upto quotedLinesSpec)

/-- 'posthornlaw03.QuotedAgain', WHERE WHAT IT READS IS OF BULK AT MOST 1048576: true; the input reads as it did. -/
def quotedAgainUptoRow : OpenClaim := { program := "ytdebimpjbcihhaa", sum := "e209ce28c865f7fb595739a328af6fe978f928dc648527b86fec3cff8ba04651", func := "posthorn/posthornlaw03.QuotedAgain", spec := "quotedAgain", inPlace := ["internal/abi.NoEscape"], unfollowed := true, recurses := true, apart := false, narrowed := true }
def QuotedAgainUptoSaid : Prop := quotedAgainUptoRow.holds Try.pinned (OpenSpec.upto quotedAgainSpec)

/-- 'posthornlaw03.QuotedPlain', WHERE WHAT IT READS IS OF BULK AT MOST 1048576: true; the input reads as it did. -/
def quotedPlainUptoRow : OpenClaim := { program := "ytdebimpjbcihhaa", sum := "e209ce28c865f7fb595739a328af6fe978f928dc648527b86fec3cff8ba04651", func := "posthorn/posthornlaw03.QuotedPlain", spec := "quotedPlain", inPlace := ["internal/abi.NoEscape"], unfollowed := true, recurses := true, apart := false, narrowed := true }
def QuotedPlainUptoSaid : Prop := quotedPlainUptoRow.holds Try.pinned (OpenSpec.upto quotedPlainSpec)

end Rows
end Go.Proofs.Ytdebimpjbcihhaa
