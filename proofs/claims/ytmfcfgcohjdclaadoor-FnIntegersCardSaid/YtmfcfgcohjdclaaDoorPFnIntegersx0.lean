/- The machine's side of a law: what its Go functions compute, as Lean functions, and the walks that show it; laid by this session's program (wip/tools) out of the translation. Conditions: those of each theorem. -/
import Derived.Test.YtmfcfgcohjdclaaDoorProg
import Derived.Below
import Derived.Deep.Draws
import Derived.Deep.AppendLies
import Derived.Maps.AppendAt
import Derived.OwnWalk
import Derived.Laws.BytesArg
import Derived.Laws.MakeOwn
import Derived.Laws.OwnMore
import Derived.Deep.OwnRows
import Derived.Tactics
import Derived.Lib.ConvBytes
import Derived.Laws.Slices
import Derived.WalkKit
import Derived.KernelRfl
import Derived.RowKit3
import Derived.Deep.LoopGhost
import Derived.Deep.QuietTactic
import Derived.BigQuiet
import Derived.WideLaws
import Derived.Deep.DeepCutAuto
import Derived.Deep.CutBlock
import Derived.Deep.RegionHeld3
import Derived.Laws.Rows
import Derived.Lib.AppendStr
import Derived.ArgAppend
import Derived.Laws.IdiomCopy
import Derived.OrdersHeld
import Derived.Laws.BitsLemmas
import Derived.RowKit
import Derived.Shelf.Strconv.Itoa3
import Derived.Shelf.Strconv.ErrVarAll
import Derived.Shelf.Abstract
import Derived.Lib.SmallJoins
import Derived.Lib.AppendIntMem
import Derived.Test.YtmfcfgcohjdclaaDoorWWords
import Derived.Test.YtmfcfgcohjdclaaDoorWLast
import Derived.Test.YtmfcfgcohjdclaaDoorWTab
import Derived.Test.YtmfcfgcohjdclaaDoorWFour
import Derived.Test.YtmfcfgcohjdclaaDoorWQPut
import Derived.Test.YtmfcfgcohjdclaaDoorWApart
import Derived.Test.YtmfcfgcohjdclaaDoorWArr
import Derived.Test.YtmfcfgcohjdclaaDoorWZeros
import Derived.Test.YtmfcfgcohjdclaaDoorWFoot
import Derived.Test.YtmfcfgcohjdclaaDoorWKept
import Derived.Test.YtmfcfgcohjdclaaDoorWShare
import Derived.Test.YtmfcfgcohjdclaaDoorWN
import Derived.Test.YtmfcfgcohjdclaaDoorWFootNe
import Derived.Test.YtmfcfgcohjdclaaDoorWAt
import Derived.Test.YtmfcfgcohjdclaaDoorWEqStruct
import Derived.Test.YtmfcfgcohjdclaaDoorWRepsOne
import Derived.Test.YtmfcfgcohjdclaaDoorWInv
import Derived.Test.YtmfcfgcohjdclaaDoorWInvWords
import Derived.Test.YtmfcfgcohjdclaaDoorWGuard
import Derived.Test.YtmfcfgcohjdclaaDoorWNEv
import Derived.Test.YtmfcfgcohjdclaaDoorWMore
namespace Go.Proofs.YtmfcfgcohjdclaaDoor.PFnIntegers
open Go.RowKit Go.Proofs.YtmfcfgcohjdclaaDoorW.PrintWords Go.Proofs.YtmfcfgcohjdclaaDoorW.PrintLast Go.Proofs.YtmfcfgcohjdclaaDoorW.PrintMore
attribute [local go_sem] max2_int min2_int max_two min_two max_three min_three max_four min_four   -- for this text's walks alone
set_option linter.unusedVariables false
set_option linter.unusedSimpArgs false



def errW : Option Int → Value
  | none => .nilIface
  | some c => .iface 0 (.int .i64 c)
theorem errW_none : errW none = .nilIface := rfl
theorem errW_some (c : Int) : errW (some c) = .iface 0 (.int .i64 c) := rfl

theorem info3 : (Tryd.prog.info? 3).map (fun i => (i.zero, i.size, i.bytes)) = some (some (.int .i64 0), 1, 8) := by kernel_rfl
theorem info5 : (Tryd.prog.info? 5).map (fun i => (i.zero, i.size, i.bytes)) = some (some (.int .u8 0), 1, 1) := by kernel_rfl
theorem info9 : (Tryd.prog.info? 9).map (fun i => (i.zero, i.size, i.bytes)) = some (some (.string ⟨#[]⟩), 1, 16) := by kernel_rfl
-- the values' own types

end Go.Proofs.YtmfcfgcohjdclaaDoor.PFnIntegers
