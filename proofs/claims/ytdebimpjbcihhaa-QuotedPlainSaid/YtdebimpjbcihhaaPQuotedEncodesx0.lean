-- PRINTED BY print.sh 35421559b90ae4d0a3588c463048766b98c2df88dd9212a6774a882060cdf62d: not written by this session
import Derived.Test.YtdebimpjbcihhaaProg
import Derived.Below
import Derived.Deep.Draws
import Derived.Deep.AppendLies
import Derived.Maps.AppendAt
import Derived.OwnWalk
import Derived.Laws.BytesArg
import Derived.Laws.MakeOwn
import Derived.Laws.OwnMore
import Derived.Deep.OwnRows
import Derived.Tactics
import Derived.Lib.ConvBytes
import Derived.Laws.Slices
import Derived.WalkKit
import Derived.KernelRfl
import Derived.RowKit3
import Derived.Deep.LoopGhost
import Derived.Deep.QuietTactic
import Derived.BigQuiet
import Derived.WideLaws
import Derived.Deep.DeepCutAuto
import Derived.Deep.CutBlock
import Derived.Deep.RegionHeld3
import Derived.Laws.Rows
import Derived.Lib.AppendStr
import Derived.ArgAppend
import Derived.Laws.IdiomCopy
import Derived.OrdersHeld
import Derived.Laws.BitsLemmas
import Derived.RowKit
import Derived.Test.YtdebimpjbcihhaaWWords
import Derived.Test.YtdebimpjbcihhaaWLast
import Derived.Test.YtdebimpjbcihhaaWTab
import Derived.Test.YtdebimpjbcihhaaWFour
import Derived.Test.YtdebimpjbcihhaaWQPut
import Derived.Test.YtdebimpjbcihhaaWApart
import Derived.Test.YtdebimpjbcihhaaWArr
import Derived.Test.YtdebimpjbcihhaaWZeros
import Derived.Test.YtdebimpjbcihhaaWFoot
import Derived.Test.YtdebimpjbcihhaaWKept
import Derived.Test.YtdebimpjbcihhaaWShare
import Derived.Test.YtdebimpjbcihhaaWN
import Derived.Test.YtdebimpjbcihhaaWFootNe
import Derived.Test.YtdebimpjbcihhaaWAt
import Derived.Test.YtdebimpjbcihhaaWEqStruct
import Derived.Test.YtdebimpjbcihhaaWRepsOne
import Derived.Test.YtdebimpjbcihhaaWInv
import Derived.Test.YtdebimpjbcihhaaWInvWords
import Derived.Test.YtdebimpjbcihhaaWGuard
import Derived.Test.YtdebimpjbcihhaaWNEv
import Derived.Test.YtdebimpjbcihhaaWMore
namespace Go.Proofs.Ytdebimpjbcihhaa.PQuotedEncodes
open Go.RowKit Go.Proofs.YtdebimpjbcihhaaW.PrintWords Go.Proofs.YtdebimpjbcihhaaW.PrintLast Go.Proofs.YtdebimpjbcihhaaW.PrintMore
attribute [local go_sem] max2_int min2_int max_two min_two max_three min_three max_four min_four   -- for this text's walks alone
set_option linter.unusedVariables false
set_option linter.unusedSimpArgs false



def errW : Option Int → Value
  | none => .nilIface
  | some c => .iface 0 (.int .i64 c)
theorem errW_none : errW none = .nilIface := rfl
theorem errW_some (c : Int) : errW (some c) = .iface 0 (.int .i64 c) := rfl

theorem info5 : (Try.prog.info? 5).map (fun i => (i.zero, i.size, i.bytes)) = some (some (.int .u8 0), 1, 1) := by kernel_rfl
-- the values' own types

end Go.Proofs.Ytdebimpjbcihhaa.PQuotedEncodes
