/-
  No cell of these rows narrows 'for every input' (looked for: loops, veiled, ifaces, maps, wideKeys, modest, calm, conditions, laid).
  DERIVED. THE GIVEN ROWS OF THIS SEAT. 6 by the template 'for every input the law returns true; each argument reads behind the call as it read before'; 0 by the template 'total and deterministic' (their statements: YtlmdghafiadgjaaTotals.lean).
  GIVEN WITH THE SEED: the statements are not yours to turn. If you find one false, say at which input.
  Laid BY PROGRAM, IN A SANDBOX (cutbox-rows.mjs): the forced cells as the released guide's own fill.sh prints them over the translation 8ba62a8e40622fa0… (all of the seat's roots in one cut). By AI agents, Wed Nov 11 2026. No macro, syntax, notation, axiom, sorry.
-/
import Derived.Test.YtlmdghafiadgjaaChecked
import GoSem.Claim
import GoSem.ClaimJoined
import GoSem.ClaimMapViews
import Derived.JoinedTies
import Derived.KernelRfl
namespace Go.Proofs.Ytlmdghafiadgjaa
/- THE CELL 'sum', in the pinned program and in every row, IS THE sha256 OF THE DUMP (.gsa) THAT YtlmdghafiadgjaaProg.lean LOADS. Nothing in Lean hashes anything: it is a label: what it is worth is what the hold of that sum in a sandbox is worth. -/
noncomputable def Try.pinned : Pinned := { name := "ytlmdghafiadgjaa", sum := "8ba62a8e40622fa00974bd0ed8c09455044133d7d3f92346d8d1a35072e1f55e", checked := Try.checked }
namespace Rows
def none {H : Type} : Left H := { results := [], args := [] }

/-- 'posthornlaw29.PagesPacks': WHATEVER THE INPUT: true; the input reads as it did. -/
def pagesPacksSpec : ChangeSpec := { name := "pagesPacks", fn := fun _ => fun
  | [d1, d2, d3, d4, d5] => { results := [.lit (.bool true)], args := [d1, d2, d3, d4, d5] }
  | _ => none }
def pagesPacksRow : OpenClaim := { program := "ytlmdghafiadgjaa", sum := "8ba62a8e40622fa00974bd0ed8c09455044133d7d3f92346d8d1a35072e1f55e", func := "posthorn/posthornlaw29.PagesPacks", spec := "pagesPacks", unfollowed := true, recurses := true, apart := false }
def PagesPacksSaid : Prop := pagesPacksRow.holds Try.pinned (OpenSpec.ofChange pagesPacksSpec)

/-- ITS FALSE NEIGHBOUR: 'it returns false'. Refute it at one input. -/
def pagesPacksWrong : ChangeSpec := { name := "pagesPacks", fn := fun _ => fun
  | [d1, d2, d3, d4, d5] => { results := [.lit (.bool false)], args := [d1, d2, d3, d4, d5] }
  | _ => none }
def PagesPacksWrongFalsely : Prop := pagesPacksRow.holds Try.pinned (OpenSpec.ofChange pagesPacksWrong)

/-- 'posthornlaw29.PagesNobody': WHATEVER THE INPUT: true; the input reads as it did. -/
def pagesNobodySpec : ChangeSpec := { name := "pagesNobody", fn := fun _ => fun
  | [d1, d2, d3] => { results := [.lit (.bool true)], args := [d1, d2, d3] }
  | _ => none }
def pagesNobodyRow : OpenClaim := { program := "ytlmdghafiadgjaa", sum := "8ba62a8e40622fa00974bd0ed8c09455044133d7d3f92346d8d1a35072e1f55e", func := "posthorn/posthornlaw29.PagesNobody", spec := "pagesNobody", unfollowed := true, recurses := true, apart := false }
def PagesNobodySaid : Prop := pagesNobodyRow.holds Try.pinned (OpenSpec.ofChange pagesNobodySpec)

/-- ITS FALSE NEIGHBOUR: 'it returns false'. Refute it at one input. -/
def pagesNobodyWrong : ChangeSpec := { name := "pagesNobody", fn := fun _ => fun
  | [d1, d2, d3] => { results := [.lit (.bool false)], args := [d1, d2, d3] }
  | _ => none }
def PagesNobodyWrongFalsely : Prop := pagesNobodyRow.holds Try.pinned (OpenSpec.ofChange pagesNobodyWrong)

/-- 'posthornlaw29.PagesTurned': WHATEVER THE INPUT: true; the input reads as it did. -/
def pagesTurnedSpec : ChangeSpec := { name := "pagesTurned", fn := fun _ => fun
  | [d1, d2, d3, d4, d5, d6, d7] => { results := [.lit (.bool true)], args := [d1, d2, d3, d4, d5, d6, d7] }
  | _ => none }
def pagesTurnedRow : OpenClaim := { program := "ytlmdghafiadgjaa", sum := "8ba62a8e40622fa00974bd0ed8c09455044133d7d3f92346d8d1a35072e1f55e", func := "posthorn/posthornlaw29.PagesTurned", spec := "pagesTurned", unfollowed := true, recurses := true, apart := false }
def PagesTurnedSaid : Prop := pagesTurnedRow.holds Try.pinned (OpenSpec.ofChange pagesTurnedSpec)

/-- ITS FALSE NEIGHBOUR: 'it returns false'. Refute it at one input. -/
def pagesTurnedWrong : ChangeSpec := { name := "pagesTurned", fn := fun _ => fun
  | [d1, d2, d3, d4, d5, d6, d7] => { results := [.lit (.bool false)], args := [d1, d2, d3, d4, d5, d6, d7] }
  | _ => none }
def PagesTurnedWrongFalsely : Prop := pagesTurnedRow.holds Try.pinned (OpenSpec.ofChange pagesTurnedWrong)

/-- 'posthornlaw29.PagesBack': WHATEVER THE INPUT: true; the input reads as it did. -/
def pagesBackSpec : ChangeSpec := { name := "pagesBack", fn := fun _ => fun
  | [d1, d2, d3, d4, d5] => { results := [.lit (.bool true)], args := [d1, d2, d3, d4, d5] }
  | _ => none }
def pagesBackRow : OpenClaim := { program := "ytlmdghafiadgjaa", sum := "8ba62a8e40622fa00974bd0ed8c09455044133d7d3f92346d8d1a35072e1f55e", func := "posthorn/posthornlaw29.PagesBack", spec := "pagesBack", unfollowed := true, recurses := true, apart := false }
def PagesBackSaid : Prop := pagesBackRow.holds Try.pinned (OpenSpec.ofChange pagesBackSpec)

/-- ITS FALSE NEIGHBOUR: 'it returns false'. Refute it at one input. -/
def pagesBackWrong : ChangeSpec := { name := "pagesBack", fn := fun _ => fun
  | [d1, d2, d3, d4, d5] => { results := [.lit (.bool false)], args := [d1, d2, d3, d4, d5] }
  | _ => none }
def PagesBackWrongFalsely : Prop := pagesBackRow.holds Try.pinned (OpenSpec.ofChange pagesBackWrong)

/-- 'posthornlaw29.PagesLives': WHATEVER THE INPUT: true; the input reads as it did. -/
def pagesLivesSpec : ChangeSpec := { name := "pagesLives", fn := fun _ => fun
  | [d1, d2] => { results := [.lit (.bool true)], args := [d1, d2] }
  | _ => none }
def pagesLivesRow : OpenClaim := { program := "ytlmdghafiadgjaa", sum := "8ba62a8e40622fa00974bd0ed8c09455044133d7d3f92346d8d1a35072e1f55e", func := "posthorn/posthornlaw29.PagesLives", spec := "pagesLives", unfollowed := true, recurses := true, apart := false }
def PagesLivesSaid : Prop := pagesLivesRow.holds Try.pinned (OpenSpec.ofChange pagesLivesSpec)

/-- ITS FALSE NEIGHBOUR: 'it returns false'. Refute it at one input. -/
def pagesLivesWrong : ChangeSpec := { name := "pagesLives", fn := fun _ => fun
  | [d1, d2] => { results := [.lit (.bool false)], args := [d1, d2] }
  | _ => none }
def PagesLivesWrongFalsely : Prop := pagesLivesRow.holds Try.pinned (OpenSpec.ofChange pagesLivesWrong)

/-- 'posthornlaw29.PagesOne': WHATEVER THE INPUT: true; the input reads as it did. -/
def pagesOneSpec : ChangeSpec := { name := "pagesOne", fn := fun _ => fun
  | [d1, d2, d3, d4, d5, d6, d7] => { results := [.lit (.bool true)], args := [d1, d2, d3, d4, d5, d6, d7] }
  | _ => none }
def pagesOneRow : OpenClaim := { program := "ytlmdghafiadgjaa", sum := "8ba62a8e40622fa00974bd0ed8c09455044133d7d3f92346d8d1a35072e1f55e", func := "posthorn/posthornlaw29.PagesOne", spec := "pagesOne", unfollowed := true, recurses := true, apart := false }
def PagesOneSaid : Prop := pagesOneRow.holds Try.pinned (OpenSpec.ofChange pagesOneSpec)

/-- ITS FALSE NEIGHBOUR: 'it returns false'. Refute it at one input. -/
def pagesOneWrong : ChangeSpec := { name := "pagesOne", fn := fun _ => fun
  | [d1, d2, d3, d4, d5, d6, d7] => { results := [.lit (.bool false)], args := [d1, d2, d3, d4, d5, d6, d7] }
  | _ => none }
def PagesOneWrongFalsely : Prop := pagesOneRow.holds Try.pinned (OpenSpec.ofChange pagesOneWrong)

/- THE SECOND FORM. 'bulk': how many values and letters a reading holds, each counted each time it is reached (what is shared counts as often as it is met; a slice's spare places count too). A statement '..UptoSaid' is the law's where the arguments, and the package variables that the reading takes, are together of bulk at most 1048576: NARROWER than '..Said'. Prove '..Said' where nothing that the law and all that it calls make is longer than what came in: it says more and counts as full. Else prove '..UptoSaid'. A law counts once. -/
mutual
def uptoBulk {H : Type} : DataW H → Nat
  | .lit (.string bytes) => bytes.length + 1
  | .lit _ => 1
  | .nil => 1
  | .ptr d => uptoBulk d + 1
  | .slice elems spare => uptoBulkAll elems + uptoBulkAll spare + 1
  | .agg parts => uptoBulkAll parts + 1
  | .iface _ d => uptoBulk d + 1
  | .map entries => uptoBulkEntries entries + 1
  | .held _ => 1
def uptoBulkAll {H : Type} : List (DataW H) → Nat
  | [] => 0
  | d :: r => uptoBulk d + uptoBulkAll r
def uptoBulkEntries {H : Type} : List (Lit × DataW H) → Nat
  | [] => 0
  | x :: r => uptoBulkEntry x + uptoBulkEntries r
def uptoBulkEntry {H : Type} : Lit × DataW H → Nat
  | (.string bytes, d) => bytes.length + uptoBulk d + 1
  | (_, d) => uptoBulk d + 1
 end
def uptoSmall : (H : Type) → List (DataW H) → Bool := fun _ ds => decide (uptoBulkAll ds ≤ 1048576)
def OpenSpec.upto (s : _root_.Go.ChangeSpec) : _root_.Go.OpenSpec := { _root_.Go.OpenSpec.ofChange s with cond := some uptoSmall }

/-- 'posthornlaw29.PagesPacks', WHERE WHAT IT READS IS OF BULK AT MOST 1048576: true; the input reads as it did. -/
def pagesPacksUptoRow : OpenClaim := { program := "ytlmdghafiadgjaa", sum := "8ba62a8e40622fa00974bd0ed8c09455044133d7d3f92346d8d1a35072e1f55e", func := "posthorn/posthornlaw29.PagesPacks", spec := "pagesPacks", unfollowed := true, recurses := true, apart := false, narrowed := true }
def PagesPacksUptoSaid : Prop := pagesPacksUptoRow.holds Try.pinned (OpenSpec.upto pagesPacksSpec)

/-- 'posthornlaw29.PagesNobody', WHERE WHAT IT READS IS OF BULK AT MOST 1048576: true; the input reads as it did. -/
def pagesNobodyUptoRow : OpenClaim := { program := "ytlmdghafiadgjaa", sum := "8ba62a8e40622fa00974bd0ed8c09455044133d7d3f92346d8d1a35072e1f55e", func := "posthorn/posthornlaw29.PagesNobody", spec := "pagesNobody", unfollowed := true, recurses := true, apart := false, narrowed := true }
def PagesNobodyUptoSaid : Prop := pagesNobodyUptoRow.holds Try.pinned (OpenSpec.upto pagesNobodySpec)

/-- 'posthornlaw29.PagesTurned', WHERE WHAT IT READS IS OF BULK AT MOST 1048576: true; the input reads as it did. -/
def pagesTurnedUptoRow : OpenClaim := { program := "ytlmdghafiadgjaa", sum := "8ba62a8e40622fa00974bd0ed8c09455044133d7d3f92346d8d1a35072e1f55e", func := "posthorn/posthornlaw29.PagesTurned", spec := "pagesTurned", unfollowed := true, recurses := true, apart := false, narrowed := true }
def PagesTurnedUptoSaid : Prop := pagesTurnedUptoRow.holds Try.pinned (OpenSpec.upto pagesTurnedSpec)

/-- 'posthornlaw29.PagesBack', WHERE WHAT IT READS IS OF BULK AT MOST 1048576: true; the input reads as it did. -/
def pagesBackUptoRow : OpenClaim := { program := "ytlmdghafiadgjaa", sum := "8ba62a8e40622fa00974bd0ed8c09455044133d7d3f92346d8d1a35072e1f55e", func := "posthorn/posthornlaw29.PagesBack", spec := "pagesBack", unfollowed := true, recurses := true, apart := false, narrowed := true }
def PagesBackUptoSaid : Prop := pagesBackUptoRow.holds Try.pinned (OpenSpec.upto pagesBackSpec)

/-- 'posthornlaw29.PagesLives', WHERE WHAT IT READS IS OF BULK AT MOST 1048576: true; the input reads as it did. -/
def pagesLivesUptoRow : OpenClaim := { program := "ytlmdghafiadgjaa", sum := "8ba62a8e40622fa00974bd0ed8c09455044133d7d3f92346d8d1a35072e1f55e", func := "posthorn/posthornlaw29.PagesLives", spec := "pagesLives", unfollowed := true, recurses := true, apart := false, narrowed := true }
def PagesLivesUptoSaid : Prop := pagesLivesUptoRow.holds Try.pinned (OpenSpec.upto pagesLivesSpec)

/-- 'posthornlaw29.PagesOne', WHERE WHAT IT READS IS OF BULK AT MOST 1048576: true; the input reads as it did. -/
def pagesOneUptoRow : OpenClaim := { program := "ytlmdghafiadgjaa", sum := "8ba62a8e40622fa00974bd0ed8c09455044133d7d3f92346d8d1a35072e1f55e", func := "posthorn/posthornlaw29.PagesOne", spec := "pagesOne", unfollowed := true, recurses := true, apart := false, narrowed := true }
def PagesOneUptoSaid : Prop := pagesOneUptoRow.holds Try.pinned (OpenSpec.upto pagesOneSpec)

end Rows
end Go.Proofs.Ytlmdghafiadgjaa
