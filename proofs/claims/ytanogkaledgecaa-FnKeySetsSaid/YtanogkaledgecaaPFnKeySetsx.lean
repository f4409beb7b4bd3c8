/- The machine's side of a law: what its Go functions compute, as Lean functions, and the walks that show it; laid by this session's program (wip/tools) out of the translation. Conditions: those of each theorem. -/
import Derived.Test.YtanogkaledgecaaPFnKeySetsx0
import Derived.Test.YtanogkaledgecaaPFnKeySetsx1
import Derived.Test.YtanogkaledgecaaPFnKeySetsx2
import Derived.Test.YtanogkaledgecaaPFnKeySetsx3
import Derived.Test.YtanogkaledgecaaPFnKeySetsx4
import Derived.Test.YtanogkaledgecaaPFnKeySetsx5
namespace Go.Proofs.Ytanogkaledgecaa.PFnKeySets
open Go.RowKit Go.Proofs.YtanogkaledgecaaW.PrintWords Go.Proofs.YtanogkaledgecaaW.PrintLast Go.Proofs.YtanogkaledgecaaW.PrintMore
attribute [local go_sem] max2_int min2_int max_two min_two max_three min_three max_four min_four   -- for this text's walks alone
set_option linter.unusedVariables false
set_option linter.unusedSimpArgs false

end Go.Proofs.Ytanogkaledgecaa.PFnKeySets
