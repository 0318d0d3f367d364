/- The law DiskOne. -/
import Derived.Test.YtfjeincceglfoaaDk19
namespace Go.Proofs.Ytfjeincceglfoaa
open Go.RowKit Go.Proofs.YtfjeincceglfoaaW.PrintWords
theorem one_law (n : Int) (A : Option Addr) (ops : List OpV) (c : Nat) (A2 : Option Addr) (more : List OpV) (c2 : Nat) (k t : Int) (w : World) (_ : (Lit.int .i64 n).wf = true) (hO : OpsAt w A ops) (hok : ∀ o ∈ ops, o.Ok) (hlen : ops.length ≤ 9223372036854775807)
    (hO2 : OpsAt w A2 more) (hok2 : ∀ o ∈ more, o.Ok) (hlen2 : more.length ≤ 9223372036854775807) (_ : (Lit.int .i64 k).wf = true) (_ : (Lit.int .i64 t).wf = true) :
    Calls Try.prog 4 #[.int .i64 n, .slice A ops.length c, .slice A2 more.length c2, .int .i64 k, .int .i64 t] w fun e w' => e = .returned (.bool true) ∧ Below w.heap.size w w' := by
  by_cases h : 1 ≤ n ∧ n ≤ 65536
  · exact one_some n A c ops A2 c2 more k t w h hO hok hlen hO2 hok2 hlen2
  · exact one_none n _ _ k t w (by omega)
end Go.Proofs.Ytfjeincceglfoaa
