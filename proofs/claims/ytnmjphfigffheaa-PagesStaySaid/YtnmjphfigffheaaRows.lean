/-
  No cell of these rows narrows 'for every input' (looked for: loops, veiled, ifaces, maps, wideKeys, modest, calm, conditions, laid).
  DERIVED. THE GIVEN ROWS OF THIS SEAT. 5 by the template 'for every input the law returns true; each argument reads behind the call as it read before'; 0 by the template 'total and deterministic' (their statements: YtnmjphfigffheaaTotals.lean).
  GIVEN WITH THE SEED: the statements are not yours to turn. If you find one false, say at which input.
  Laid BY PROGRAM, IN A SANDBOX (cutbox-rows.mjs): the forced cells as the released guide's own fill.sh prints them over the translation eec4858dc5ca7c02… (all of the seat's roots in one cut). By AI agents, Wed Nov 11 2026. No macro, syntax, notation, axiom, sorry.
-/
import Derived.Test.YtnmjphfigffheaaChecked
import GoSem.Claim
import GoSem.ClaimJoined
import GoSem.ClaimMapViews
import Derived.JoinedTies
import Derived.KernelRfl
namespace Go.Proofs.Ytnmjphfigffheaa
/- THE CELL 'sum', in the pinned program and in every row, IS THE sha256 OF THE DUMP (.gsa) THAT YtnmjphfigffheaaProg.lean LOADS. Nothing in Lean hashes anything: it is a label: what it is worth is what the hold of that sum in a sandbox is worth. -/
noncomputable def Try.pinned : Pinned := { name := "ytnmjphfigffheaa", sum := "eec4858dc5ca7c02809397ece086733e71864c4f28c3c444d1a8b79383b9bfbd", checked := Try.checked }
namespace Rows
def none {H : Type} : Left H := { results := [], args := [] }

/-- 'posthornlaw29.PagesStay': WHATEVER THE INPUT: true; the input reads as it did. -/
def pagesStaySpec : ChangeSpec := { name := "pagesStay", fn := fun _ => fun
  | [d1, d2, d3, d4] => { results := [.lit (.bool true)], args := [d1, d2, d3, d4] }
  | _ => none }
def pagesStayRow : OpenClaim := { program := "ytnmjphfigffheaa", sum := "eec4858dc5ca7c02809397ece086733e71864c4f28c3c444d1a8b79383b9bfbd", func := "posthorn/posthornlaw29.PagesStay", spec := "pagesStay", unfollowed := true, recurses := true, apart := false }
def PagesStaySaid : Prop := pagesStayRow.holds Try.pinned (OpenSpec.ofChange pagesStaySpec)

/-- ITS FALSE NEIGHBOUR: 'it returns false'. Refute it at one input. -/
def pagesStayWrong : ChangeSpec := { name := "pagesStay", fn := fun _ => fun
  | [d1, d2, d3, d4] => { results := [.lit (.bool false)], args := [d1, d2, d3, d4] }
  | _ => none }
def PagesStayWrongFalsely : Prop := pagesStayRow.holds Try.pinned (OpenSpec.ofChange pagesStayWrong)

/-- 'posthornlaw30.BtreeNobody': WHATEVER THE INPUT: true; the input reads as it did. -/
def btreeNobodySpec : ChangeSpec := { name := "btreeNobody", fn := fun _ => fun
  | [d1, d2, d3] => { results := [.lit (.bool true)], args := [d1, d2, d3] }
  | _ => none }
def btreeNobodyRow : OpenClaim := { program := "ytnmjphfigffheaa", sum := "eec4858dc5ca7c02809397ece086733e71864c4f28c3c444d1a8b79383b9bfbd", func := "posthorn/posthornlaw30.BtreeNobody", spec := "btreeNobody", inPlace := ["internal/bytealg.Compare", "slices.overlaps[posthorn/btree.Pair]", "slices.overlaps[[]byte]", "slices.overlaps[*posthorn/btree.link]"], unfollowed := true, recurses := true, apart := false }
def BtreeNobodySaid : Prop := btreeNobodyRow.holds Try.pinned (OpenSpec.ofChange btreeNobodySpec)

/-- ITS FALSE NEIGHBOUR: 'it returns false'. Refute it at one input. -/
def btreeNobodyWrong : ChangeSpec := { name := "btreeNobody", fn := fun _ => fun
  | [d1, d2, d3] => { results := [.lit (.bool false)], args := [d1, d2, d3] }
  | _ => none }
def BtreeNobodyWrongFalsely : Prop := btreeNobodyRow.holds Try.pinned (OpenSpec.ofChange btreeNobodyWrong)

/-- 'posthornlaw30.BtreeRoots': WHATEVER THE INPUT: true; the input reads as it did. -/
def btreeRootsSpec : ChangeSpec := { name := "btreeRoots", fn := fun _ => fun
  | [d1, d2, d3] => { results := [.lit (.bool true)], args := [d1, d2, d3] }
  | _ => none }
def btreeRootsRow : OpenClaim := { program := "ytnmjphfigffheaa", sum := "eec4858dc5ca7c02809397ece086733e71864c4f28c3c444d1a8b79383b9bfbd", func := "posthorn/posthornlaw30.BtreeRoots", spec := "btreeRoots", inPlace := ["internal/bytealg.Compare", "slices.overlaps[posthorn/btree.Pair]", "slices.overlaps[[]byte]", "slices.overlaps[*posthorn/btree.link]"], unfollowed := true, recurses := true, apart := false }
def BtreeRootsSaid : Prop := btreeRootsRow.holds Try.pinned (OpenSpec.ofChange btreeRootsSpec)

/-- ITS FALSE NEIGHBOUR: 'it returns false'. Refute it at one input. -/
def btreeRootsWrong : ChangeSpec := { name := "btreeRoots", fn := fun _ => fun
  | [d1, d2, d3] => { results := [.lit (.bool false)], args := [d1, d2, d3] }
  | _ => none }
def BtreeRootsWrongFalsely : Prop := btreeRootsRow.holds Try.pinned (OpenSpec.ofChange btreeRootsWrong)

/-- 'posthornlaw30.BtreeOrder': WHATEVER THE INPUT: true; the input reads as it did. -/
def btreeOrderSpec : ChangeSpec := { name := "btreeOrder", fn := fun _ => fun
  | [d1, d2, d3] => { results := [.lit (.bool true)], args := [d1, d2, d3] }
  | _ => none }
def btreeOrderRow : OpenClaim := { program := "ytnmjphfigffheaa", sum := "eec4858dc5ca7c02809397ece086733e71864c4f28c3c444d1a8b79383b9bfbd", func := "posthorn/posthornlaw30.BtreeOrder", spec := "btreeOrder", inPlace := ["internal/bytealg.Compare", "slices.overlaps[posthorn/btree.Pair]", "slices.overlaps[[]byte]", "slices.overlaps[*posthorn/btree.link]"], unfollowed := true, recurses := true, apart := false }
def BtreeOrderSaid : Prop := btreeOrderRow.holds Try.pinned (OpenSpec.ofChange btreeOrderSpec)

/-- ITS FALSE NEIGHBOUR: 'it returns false'. Refute it at one input. -/
def btreeOrderWrong : ChangeSpec := { name := "btreeOrder", fn := fun _ => fun
  | [d1, d2, d3] => { results := [.lit (.bool false)], args := [d1, d2, d3] }
  | _ => none }
def BtreeOrderWrongFalsely : Prop := btreeOrderRow.holds Try.pinned (OpenSpec.ofChange btreeOrderWrong)

/-- 'posthornlaw30.BtreeParts': WHATEVER THE INPUT: true; the input reads as it did. -/
def btreePartsSpec : ChangeSpec := { name := "btreeParts", fn := fun _ => fun
  | [d1, d2] => { results := [.lit (.bool true)], args := [d1, d2] }
  | _ => none }
def btreePartsRow : OpenClaim := { program := "ytnmjphfigffheaa", sum := "eec4858dc5ca7c02809397ece086733e71864c4f28c3c444d1a8b79383b9bfbd", func := "posthorn/posthornlaw30.BtreeParts", spec := "btreeParts", inPlace := ["internal/bytealg.Compare", "slices.overlaps[posthorn/btree.Pair]", "slices.overlaps[[]byte]", "slices.overlaps[*posthorn/btree.link]"], unfollowed := true, recurses := true, apart := false }
def BtreePartsSaid : Prop := btreePartsRow.holds Try.pinned (OpenSpec.ofChange btreePartsSpec)

/-- ITS FALSE NEIGHBOUR: 'it returns false'. Refute it at one input. -/
def btreePartsWrong : ChangeSpec := { name := "btreeParts", fn := fun _ => fun
  | [d1, d2] => { results := [.lit (.bool false)], args := [d1, d2] }
  | _ => none }
def BtreePartsWrongFalsely : Prop := btreePartsRow.holds Try.pinned (OpenSpec.ofChange btreePartsWrong)

/- THE SECOND FORM. 'bulk': how many values and letters a reading holds, each counted each time it is reached (what is shared counts as often as it is met; a slice's spare places count too). A statement '..UptoSaid' is the law's where the arguments, and the package variables that the reading takes, are together of bulk at most 1048576: NARROWER than '..Said'. Prove '..Said' where nothing that the law and all that it calls make is longer than what came in: it says more and counts as full. Else prove '..UptoSaid'. A law counts once. -/
mutual
def uptoBulk {H : Type} : DataW H → Nat
  | .lit (.string bytes) => bytes.length + 1
  | .lit _ => 1
  | .nil => 1
  | .ptr d => uptoBulk d + 1
  | .slice elems spare => uptoBulkAll elems + uptoBulkAll spare + 1
  | .agg parts => uptoBulkAll parts + 1
  | .iface _ d => uptoBulk d + 1
  | .map entries => uptoBulkEntries entries + 1
  | .held _ => 1
def uptoBulkAll {H : Type} : List (DataW H) → Nat
  | [] => 0
  | d :: r => uptoBulk d + uptoBulkAll r
def uptoBulkEntries {H : Type} : List (Lit × DataW H) → Nat
  | [] => 0
  | x :: r => uptoBulkEntry x + uptoBulkEntries r
def uptoBulkEntry {H : Type} : Lit × DataW H → Nat
  | (.string bytes, d) => bytes.length + uptoBulk d + 1
  | (_, d) => uptoBulk d + 1
 end
def uptoSmall : (H : Type) → List (DataW H) → Bool := fun _ ds => decide (uptoBulkAll ds ≤ 1048576)
def OpenSpec.upto (s : _root_.Go.ChangeSpec) : _root_.Go.OpenSpec := { _root_.Go.OpenSpec.ofChange s with cond := some uptoSmall }

/-- 'posthornlaw29.PagesStay', WHERE WHAT IT READS IS OF BULK AT MOST 1048576: true; the input reads as it did. -/
def pagesStayUptoRow : OpenClaim := { program := "ytnmjphfigffheaa", sum := "eec4858dc5ca7c02809397ece086733e71864c4f28c3c444d1a8b79383b9bfbd", func := "posthorn/posthornlaw29.PagesStay", spec := "pagesStay", unfollowed := true, recurses := true, apart := false, narrowed := true }
def PagesStayUptoSaid : Prop := pagesStayUptoRow.holds Try.pinned (OpenSpec.upto pagesStaySpec)

/-- 'posthornlaw30.BtreeNobody', WHERE WHAT IT READS IS OF BULK AT MOST 1048576: true; the input reads as it did. -/
def btreeNobodyUptoRow : OpenClaim := { program := "ytnmjphfigffheaa", sum := "eec4858dc5ca7c02809397ece086733e71864c4f28c3c444d1a8b79383b9bfbd", func := "posthorn/posthornlaw30.BtreeNobody", spec := "btreeNobody", inPlace := ["internal/bytealg.Compare", "slices.overlaps[posthorn/btree.Pair]", "slices.overlaps[[]byte]", "slices.overlaps[*posthorn/btree.link]"], unfollowed := true, recurses := true, apart := false, narrowed := true }
def BtreeNobodyUptoSaid : Prop := btreeNobodyUptoRow.holds Try.pinned (OpenSpec.upto btreeNobodySpec)

/-- 'posthornlaw30.BtreeRoots', WHERE WHAT IT READS IS OF BULK AT MOST 1048576: true; the input reads as it did. -/
def btreeRootsUptoRow : OpenClaim := { program := "ytnmjphfigffheaa", sum := "eec4858dc5ca7c02809397ece086733e71864c4f28c3c444d1a8b79383b9bfbd", func := "posthorn/posthornlaw30.BtreeRoots", spec := "btreeRoots", inPlace := ["internal/bytealg.Compare", "slices.overlaps[posthorn/btree.Pair]", "slices.overlaps[[]byte]", "slices.overlaps[*posthorn/btree.link]"], unfollowed := true, recurses := true, apart := false, narrowed := true }
def BtreeRootsUptoSaid : Prop := btreeRootsUptoRow.holds Try.pinned (OpenSpec.upto btreeRootsSpec)

/-- 'posthornlaw30.BtreeOrder', WHERE WHAT IT READS IS OF BULK AT MOST 1048576: true; the input reads as it did. -/
def btreeOrderUptoRow : OpenClaim := { program := "ytnmjphfigffheaa", sum := "eec4858dc5ca7c02809397ece086733e71864c4f28c3c444d1a8b79383b9bfbd", func := "posthorn/posthornlaw30.BtreeOrder", spec := "btreeOrder", inPlace := ["internal/bytealg.Compare", "slices.overlaps[posthorn/btree.Pair]", "slices.overlaps[[]byte]", "slices.overlaps[*posthorn/btree.link]"], unfollowed := true, recurses := true, apart := false, narrowed := true }
def BtreeOrderUptoSaid : Prop := btreeOrderUptoRow.holds Try.pinned (OpenSpec.upto btreeOrderSpec)

/-- 'posthornlaw30.BtreeParts', WHERE WHAT IT READS IS OF BULK AT MOST 1048576: true; the input reads as it did. -/
def btreePartsUptoRow : OpenClaim := { program := "ytnmjphfigffheaa", sum := "eec4858dc5ca7c02809397ece086733e71864c4f28c3c444d1a8b79383b9bfbd", func := "posthorn/posthornlaw30.BtreeParts", spec := "btreeParts", inPlace := ["internal/bytealg.Compare", "slices.overlaps[posthorn/btree.Pair]", "slices.overlaps[[]byte]", "slices.overlaps[*posthorn/btree.link]"], unfollowed := true, recurses := true, apart := false, narrowed := true }
def BtreePartsUptoSaid : Prop := btreePartsUptoRow.holds Try.pinned (OpenSpec.upto btreePartsSpec)

end Rows
end Go.Proofs.Ytnmjphfigffheaa
