/- Whole rows, as the walk meets them. -/
import Derived.Test.YtpbgpbblbohmgaaEv
import Derived.Deep.WholeRow
import Derived.Laws.Tables
namespace Go.Proofs.Ytpbgpbblbohmgaa
open Go.RowKit Go.Proofs.YtpbgpbblbohmgaaW.PrintWords
section
variable {P : Program} {ops : Array Oper} {rest : List Oper} {Q : Exit → Act → World → Prop} {d : Option Tmp} {x y : Operand} {ty ty' t : TypeId} {pos : String} {af : Array Edge} {a : Act} {w : World}
theorem at_load_row (g : Nat) (cs : Array Value) (fr : Nat × Nat) (de : TypeDesc) (hg : w.heap[g]? = some (.cells cs t fr)) (hu : P.underlying ty = some de) (hi : (P.info? ty).map (·.size) = some cs.size) (hd : (match de with | .struct _ | .array _ _ => true | _ => false) = true)
    (hx : a.eval x = .pointer (some ⟨g, 0, none⟩)) (h : wpList P ops Q rest (a.put d (.agg cs)) w) : wpList P ops Q (⟨d, .load ty x, ty', pos, af, none⟩ :: rest) a w :=
  wpList_load_row rfl ty x rfl g hx t cs fr de hg hu hd hi h
/-- A store into the block that was made last. -/
theorem at_store_new (W0 : World) (c c' : Array Value) (hi : (P.info? ty).map (·.size) = some c'.size) (hs : c.size = c'.size) (h1 : c'.all (·.oneCell') = true)
    (hx : a.eval x = .pointer (some ⟨W0.heap.size, 0, none⟩)) (hy : a.eval y = .agg c')
    (h : wpList P ops Q rest (a.put d undef) (W0.alloc (.cells c' t))) : wpList P ops Q (⟨d, .store ty x y, ty', pos, af, none⟩ :: rest) a (W0.alloc (.cells c t)) := by
  refine wpList_store_row rfl ty x y rfl W0.heap.size c' hx hy t c (heap_alloc_last W0 _) hi hs h1 ?_
  rw [World.setRow_alloc_new]; exact h
end
end Go.Proofs.Ytpbgpbblbohmgaa
