/- The pure statement of FnExactCompareLabels: what the printed functions compute answers true for all arguments within the printed bounds. -/
import Derived.Test.YthlpogndjhkkkaaPFnExactCompareLabelsx1
import Derived.Test.YthlpogndjhkkkaaKit
namespace Go.Proofs.Ythlpogndjhkkkaa.Pure
open Go.RowKit Go.Proofs.Ythlpogndjhkkkaa.PFnExactCompareLabels Go.Proofs.YthlpogndjhkkkaaW.PrintWords Go.Proofs.YthlpogndjhkkkaaW.PrintLast Go.Proofs.Ythlpogndjhkkkaa.Kit
set_option linter.unusedVariables false
set_option linter.unusedSimpArgs false
namespace OfFnExactCompareLabels
theorem cmp_less : ∀ a b : List UInt8, Lib.compareBytes a b = if (Op.bytesLess a b) = true then -1 else if (Op.bytesLess b a) = true then 1 else 0
  | [], [] => rfl
  | [], _ :: _ => by simp [Op.bytesLess, Lib.compareBytes]
  | _ :: _, [] => by simp [Op.bytesLess, Lib.compareBytes]
  | a :: x, b :: y => by
    have ih := cmp_less x y
    simp only [Op.bytesLess, Lib.compareBytes]
    by_cases h1 : a < b
    · simp [h1]
    · by_cases h2 : b < a
      · have h3 : (a == b) = false := by
          rw [beq_eq_false_iff_ne]
          rintro rfl
          exact h1 h2
        simp [h1, h2, h3]
      · have h3 : a = b := by
          rw [UInt8.lt_iff_toNat_lt] at h1 h2
          exact UInt8.toNat_inj.mp (by omega)
        subst h3
        rw [ih]
        simp [h1]
end OfFnExactCompareLabels
open OfFnExactCompareLabels in
theorem FnExactCompareLabels : laws_FnExactCompareLabels.Pure := by
  intro a b _ _
  unfold laws_FnExactCompareLabels.f spec_CompareLabels.f impl_CompareLabels.f strings_Compare.f
  split
  · rfl
  split
  · rfl
  rw [cmp_less, ByteArray.toList_eq, ByteArray.toList_eq]
  split
  · rfl
  split
  · rfl
  · rfl
end Go.Proofs.Ythlpogndjhkkkaa.Pure
