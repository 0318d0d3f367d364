/- The law DiskTwice. -/
import Derived.Test.YtfjeincceglfoaaDk14
namespace Go.Proofs.Ytfjeincceglfoaa
open Go.RowKit Go.Proofs.YtfjeincceglfoaaW.PrintWords
theorem twice_law (n : Int) (A : Option Addr) (ops : List OpV) (c : Nat) (k t m l : Int) (w : World) (_ : (Lit.int .i64 n).wf = true) (hO : OpsAt w A ops) (hok : ∀ o ∈ ops, o.Ok) (hlen : ops.length ≤ 9223372036854775807)
    (_ : (Lit.int .i64 k).wf = true) (_ : (Lit.int .i64 t).wf = true) (_ : (Lit.int .i64 m).wf = true) (_ : (Lit.int .i64 l).wf = true) :
    Calls Try.prog 3 #[.int .i64 n, .slice A ops.length c, .int .i64 k, .int .i64 t, .int .i64 m, .int .i64 l] w fun e w' => e = .returned (.bool true) ∧ Below w.heap.size w w' := by
  by_cases h : 1 ≤ n ∧ n ≤ 65536
  · exact twice_some n A c ops k t m l w h hO hok hlen
  · exact twice_none n _ k t m l w (by omega)
end Go.Proofs.Ytfjeincceglfoaa
