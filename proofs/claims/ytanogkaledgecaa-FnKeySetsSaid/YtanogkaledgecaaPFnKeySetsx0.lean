/- The machine's side of a law: what its Go functions compute, as Lean functions, and the walks that show it; laid by this session's program (wip/tools) out of the translation. Conditions: those of each theorem. -/
import Derived.Test.YtanogkaledgecaaProg
import Derived.Below
import Derived.Deep.Draws
import Derived.Deep.AppendLies
import Derived.Maps.AppendAt
import Derived.OwnWalk
import Derived.Laws.BytesArg
import Derived.Laws.MakeOwn
import Derived.Laws.OwnMore
import Derived.Deep.OwnRows
import Derived.Tactics
import Derived.Lib.ConvBytes
import Derived.Laws.Slices
import Derived.WalkKit
import Derived.KernelRfl
import Derived.RowKit3
import Derived.Deep.LoopGhost
import Derived.Deep.QuietTactic
import Derived.BigQuiet
import Derived.WideLaws
import Derived.Deep.DeepCutAuto
import Derived.Deep.CutBlock
import Derived.Deep.RegionHeld3
import Derived.Laws.Rows
import Derived.Lib.AppendStr
import Derived.ArgAppend
import Derived.Laws.IdiomCopy
import Derived.OrdersHeld
import Derived.Laws.BitsLemmas
import Derived.RowKit
import Derived.Test.YtanogkaledgecaaWWords
import Derived.Test.YtanogkaledgecaaWLast
import Derived.Test.YtanogkaledgecaaWTab
import Derived.Test.YtanogkaledgecaaWFour
import Derived.Test.YtanogkaledgecaaWQPut
import Derived.Test.YtanogkaledgecaaWApart
import Derived.Test.YtanogkaledgecaaWArr
import Derived.Test.YtanogkaledgecaaWZeros
import Derived.Test.YtanogkaledgecaaWFoot
import Derived.Test.YtanogkaledgecaaWKept
import Derived.Test.YtanogkaledgecaaWShare
import Derived.Test.YtanogkaledgecaaWN
import Derived.Test.YtanogkaledgecaaWFootNe
import Derived.Test.YtanogkaledgecaaWAt
import Derived.Test.YtanogkaledgecaaWEqStruct
import Derived.Test.YtanogkaledgecaaWRepsOne
import Derived.Test.YtanogkaledgecaaWInv
import Derived.Test.YtanogkaledgecaaWInvWords
import Derived.Test.YtanogkaledgecaaWGuard
import Derived.Test.YtanogkaledgecaaWNEv
import Derived.Test.YtanogkaledgecaaWMore
namespace Go.Proofs.Ytanogkaledgecaa.PFnKeySets
open Go.RowKit Go.Proofs.YtanogkaledgecaaW.PrintWords Go.Proofs.YtanogkaledgecaaW.PrintLast Go.Proofs.YtanogkaledgecaaW.PrintMore
attribute [local go_sem] max2_int min2_int max_two min_two max_three min_three max_four min_four   -- for this text's walks alone
set_option linter.unusedVariables false
set_option linter.unusedSimpArgs false



def errW : Option Int → Value
  | none => .nilIface
  | some c => .iface 0 (.int .i64 c)
theorem errW_none : errW none = .nilIface := rfl
theorem errW_some (c : Int) : errW (some c) = .iface 0 (.int .i64 c) := rfl

theorem info3 : (Try.prog.info? 3).map (fun i => (i.zero, i.size, i.bytes)) = some (some (.int .i64 0), 1, 8) := by kernel_rfl
-- the values' own types

end Go.Proofs.Ytanogkaledgecaa.PFnKeySets
