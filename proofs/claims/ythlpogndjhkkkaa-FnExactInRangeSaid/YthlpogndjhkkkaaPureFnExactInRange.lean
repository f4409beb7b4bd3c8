/- The pure statement of FnExactInRange: what the printed functions compute answers true for all arguments within the printed bounds. -/
import Derived.Test.YthlpogndjhkkkaaPFnExactInRangex1
import Derived.Test.YthlpogndjhkkkaaKit
namespace Go.Proofs.Ythlpogndjhkkkaa.Pure
open Go.RowKit Go.Proofs.Ythlpogndjhkkkaa.PFnExactInRange Go.Proofs.YthlpogndjhkkkaaW.PrintWords Go.Proofs.YthlpogndjhkkkaaW.PrintLast Go.Proofs.Ythlpogndjhkkkaa.Kit
set_option linter.unusedVariables false
set_option linter.unusedSimpArgs false
namespace OfFnExactInRange
theorem InRange_v (a b c : Int) : impl_InRange.f a b c = some (decide (b ≤ a ∧ a ≤ c)) := by
  unfold impl_InRange.f
  by_cases h : b ≤ a <;> simp [h]

theorem sInRange_v (a b c : Int) : spec_InRange.f a b c = some (decide (b ≤ a ∧ a ≤ c)) := by
  unfold spec_InRange.f
  by_cases h : b ≤ a <;> simp [h]
end OfFnExactInRange
open OfFnExactInRange in
theorem FnExactInRange : laws_FnExactInRange.Pure := by
  intro a b c _ _ _
  unfold laws_FnExactInRange.f
  rw [sInRange_v, InRange_v]
  simp
end Go.Proofs.Ythlpogndjhkkkaa.Pure
