/- The machine's side of a law: what its Go functions compute, as Lean functions, and the walks that show it; laid by this session's program (wip/tools) out of the translation. Conditions: those of each theorem. -/
import Derived.Test.YthlpogndjhkkkaaProg
import Derived.Below
import Derived.Deep.Draws
import Derived.Deep.AppendLies
import Derived.Maps.AppendAt
import Derived.OwnWalk
import Derived.Laws.BytesArg
import Derived.Laws.MakeOwn
import Derived.Laws.OwnMore
import Derived.Deep.OwnRows
import Derived.Tactics
import Derived.Lib.ConvBytes
import Derived.Laws.Slices
import Derived.WalkKit
import Derived.KernelRfl
import Derived.RowKit3
import Derived.Deep.LoopGhost
import Derived.Deep.QuietTactic
import Derived.BigQuiet
import Derived.WideLaws
import Derived.Deep.DeepCutAuto
import Derived.Deep.CutBlock
import Derived.Deep.RegionHeld3
import Derived.Laws.Rows
import Derived.Lib.AppendStr
import Derived.ArgAppend
import Derived.Laws.IdiomCopy
import Derived.OrdersHeld
import Derived.Laws.BitsLemmas
import Derived.RowKit
import Derived.Laws.Cover1
import Derived.Shelf.Small.Strs
import Derived.Shelf.Lay
import Derived.Ground.NamesProg
import Derived.Test.YthlpogndjhkkkaaWWords
import Derived.Test.YthlpogndjhkkkaaWLast
import Derived.Test.YthlpogndjhkkkaaWTab
import Derived.Test.YthlpogndjhkkkaaWFour
import Derived.Test.YthlpogndjhkkkaaWQPut
import Derived.Test.YthlpogndjhkkkaaWApart
import Derived.Test.YthlpogndjhkkkaaWArr
import Derived.Test.YthlpogndjhkkkaaWZeros
import Derived.Test.YthlpogndjhkkkaaWFoot
import Derived.Test.YthlpogndjhkkkaaWKept
import Derived.Test.YthlpogndjhkkkaaWShare
import Derived.Test.YthlpogndjhkkkaaWN
import Derived.Test.YthlpogndjhkkkaaWFootNe
import Derived.Test.YthlpogndjhkkkaaWAt
import Derived.Test.YthlpogndjhkkkaaWEqStruct
import Derived.Test.YthlpogndjhkkkaaWRepsOne
import Derived.Test.YthlpogndjhkkkaaWInv
import Derived.Test.YthlpogndjhkkkaaWInvWords
import Derived.Test.YthlpogndjhkkkaaWGuard
import Derived.Test.YthlpogndjhkkkaaWNEv
import Derived.Test.YthlpogndjhkkkaaWMore
namespace Go.Proofs.Ythlpogndjhkkkaa.PFnExactCompareLabels
open Go.RowKit Go.Proofs.YthlpogndjhkkkaaW.PrintWords Go.Proofs.YthlpogndjhkkkaaW.PrintLast Go.Proofs.YthlpogndjhkkkaaW.PrintMore
attribute [local go_sem] max2_int min2_int max_two min_two max_three min_three max_four min_four   -- for this text's walks alone
set_option linter.unusedVariables false
set_option linter.unusedSimpArgs false



def errW : Option Int → Value
  | none => .nilIface
  | some c => .iface 0 (.int .i64 c)
theorem errW_none : errW none = .nilIface := rfl
theorem errW_some (c : Int) : errW (some c) = .iface 0 (.int .i64 c) := rfl

-- the values' own types

end Go.Proofs.Ythlpogndjhkkkaa.PFnExactCompareLabels
