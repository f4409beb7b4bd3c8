/- The pure statement of FnExactCeilDiv: what the printed functions compute answers true for all arguments within the printed bounds. -/
import Derived.Test.YthlpogndjhkkkaaPFnExactCeilDivx1
import Derived.Test.YthlpogndjhkkkaaKit
namespace Go.Proofs.Ythlpogndjhkkkaa.Pure
open Go.RowKit Go.Proofs.Ythlpogndjhkkkaa.PFnExactCeilDiv Go.Proofs.YthlpogndjhkkkaaW.PrintWords Go.Proofs.YthlpogndjhkkkaaW.PrintLast Go.Proofs.Ythlpogndjhkkkaa.Kit
set_option linter.unusedVariables false
set_option linter.unusedSimpArgs false
namespace OfFnExactCeilDiv
theorem InRange_v (a b c : Int) : impl_InRange.f a b c = some (decide (b ≤ a ∧ a ≤ c)) := by
  unfold impl_InRange.f
  by_cases h : b ≤ a <;> simp [h]

theorem l1In_v (a b c : Int) : spec_l1In.f a b c = some (decide (b ≤ a ∧ a ≤ c)) := by
  unfold spec_l1In.f
  by_cases h : b ≤ a <;> simp [h]

theorem CeilDiv_v (a b : Int) : spec_CeilDiv.f a b = some (if 0 ≤ a ∧ a ≤ 1000000000000 ∧ 1 ≤ b ∧ b ≤ 1000000000000 then (a + b - 1) / b else 0) := by
  unfold spec_CeilDiv.f
  rw [l1In_v, l1In_v]
  by_cases h1 : 0 ≤ a ∧ a ≤ 1000000000000
  · by_cases h2 : 1 ≤ b ∧ b ≤ 1000000000000
    · have hb : ¬ b = 0 := by omega
      have hq : (a + b - 1) / b ≤ a + b - 1 := Int.ediv_le_self _ (by omega)
      have hq0 : 0 ≤ (a + b - 1) / b := Int.ediv_nonneg (by omega) (by omega)
      rw [if_pos (show 0 ≤ a ∧ a ≤ 1000000000000 ∧ 1 ≤ b ∧ b ≤ 1000000000000 from ⟨h1.1, h1.2, h2⟩)]
      simp only [h1, h2, hb, and_self, decide_true, Option.bind_some, if_true, if_false]
      rw [w64 (i := a + b) (by omega) (by omega), w64 (i := a + b - 1) (by omega) (by omega), Int.tdiv_eq_ediv_of_nonneg (by omega), w64 (by omega) (by omega)]
    · rw [if_neg (show ¬ (0 ≤ a ∧ a ≤ 1000000000000 ∧ 1 ≤ b ∧ b ≤ 1000000000000) from fun h => h2 h.2.2)]
      simp [h1, h2]
  · rw [if_neg (show ¬ (0 ≤ a ∧ a ≤ 1000000000000 ∧ 1 ≤ b ∧ b ≤ 1000000000000) from fun h => h1 ⟨h.1, h.2.1⟩)]
    simp [h1]
theorem iCeilDiv_v (a b : Int) : impl_CeilDiv.f a b = spec_CeilDiv.f a b := by
  unfold impl_CeilDiv.f spec_CeilDiv.f
  simp only [InRange_v, l1In_v]
end OfFnExactCeilDiv
open OfFnExactCeilDiv in
theorem FnExactCeilDiv : laws_FnExactCeilDiv.Pure := by
  intro a b _ _
  unfold laws_FnExactCeilDiv.f
  rw [iCeilDiv_v, CeilDiv_v]
  simp
end Go.Proofs.Ythlpogndjhkkkaa.Pure
