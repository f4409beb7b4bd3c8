/- The machine's side of a law: what its Go functions compute, as Lean functions, and the walks that show it; laid by this session's program (wip/tools) out of the translation. Conditions: those of each theorem. -/
import Derived.Test.YtaebboanblfmjaaProg
import Derived.Below
import Derived.Deep.Draws
import Derived.Deep.AppendLies
import Derived.Maps.AppendAt
import Derived.OwnWalk
import Derived.Laws.BytesArg
import Derived.Laws.MakeOwn
import Derived.Laws.OwnMore
import Derived.Deep.OwnRows
import Derived.Tactics
import Derived.Lib.ConvBytes
import Derived.Laws.Slices
import Derived.WalkKit
import Derived.KernelRfl
import Derived.RowKit3
import Derived.Deep.LoopGhost
import Derived.Deep.QuietTactic
import Derived.BigQuiet
import Derived.WideLaws
import Derived.Deep.DeepCutAuto
import Derived.Deep.CutBlock
import Derived.Deep.RegionHeld3
import Derived.Laws.Rows
import Derived.Lib.AppendStr
import Derived.ArgAppend
import Derived.Laws.IdiomCopy
import Derived.OrdersHeld
import Derived.Laws.BitsLemmas
import Derived.RowKit
import Derived.Test.YtaebboanblfmjaaWWords
import Derived.Test.YtaebboanblfmjaaWLast
import Derived.Test.YtaebboanblfmjaaWTab
import Derived.Test.YtaebboanblfmjaaWFour
import Derived.Test.YtaebboanblfmjaaWQPut
import Derived.Test.YtaebboanblfmjaaWApart
import Derived.Test.YtaebboanblfmjaaWArr
import Derived.Test.YtaebboanblfmjaaWZeros
import Derived.Test.YtaebboanblfmjaaWFoot
import Derived.Test.YtaebboanblfmjaaWKept
import Derived.Test.YtaebboanblfmjaaWShare
import Derived.Test.YtaebboanblfmjaaWN
import Derived.Test.YtaebboanblfmjaaWFootNe
import Derived.Test.YtaebboanblfmjaaWAt
import Derived.Test.YtaebboanblfmjaaWEqStruct
import Derived.Test.YtaebboanblfmjaaWRepsOne
import Derived.Test.YtaebboanblfmjaaWInv
import Derived.Test.YtaebboanblfmjaaWInvWords
import Derived.Test.YtaebboanblfmjaaWGuard
import Derived.Test.YtaebboanblfmjaaWNEv
import Derived.Test.YtaebboanblfmjaaWMore
namespace Go.Proofs.Ytaebboanblfmjaa.PFnExactKeysInts
open Go.RowKit Go.Proofs.YtaebboanblfmjaaW.PrintWords Go.Proofs.YtaebboanblfmjaaW.PrintLast Go.Proofs.YtaebboanblfmjaaW.PrintMore
attribute [local go_sem] max2_int min2_int max_two min_two max_three min_three max_four min_four   -- for this text's walks alone
set_option linter.unusedVariables false
set_option linter.unusedSimpArgs false



def errW : Option Int → Value
  | none => .nilIface
  | some c => .iface 0 (.int .i64 c)
theorem errW_none : errW none = .nilIface := rfl
theorem errW_some (c : Int) : errW (some c) = .iface 0 (.int .i64 c) := rfl

theorem info3 : (Try.prog.info? 3).map (fun i => (i.zero, i.size, i.bytes)) = some (some (.int .i64 0), 1, 8) := by kernel_rfl
-- the values' own types

end Go.Proofs.Ytaebboanblfmjaa.PFnExactKeysInts
