/- The pure statement of FnExactMod: what the printed functions compute answers true for all arguments within the printed bounds. -/
import Derived.Test.YthlpogndjhkkkaaPFnExactModx1
import Derived.Test.YthlpogndjhkkkaaKit
namespace Go.Proofs.Ythlpogndjhkkkaa.Pure
open Go.RowKit Go.Proofs.Ythlpogndjhkkkaa.PFnExactMod Go.Proofs.YthlpogndjhkkkaaW.PrintWords Go.Proofs.YthlpogndjhkkkaaW.PrintLast Go.Proofs.Ythlpogndjhkkkaa.Kit
set_option linter.unusedVariables false
set_option linter.unusedSimpArgs false
namespace OfFnExactMod
theorem InRange_v (a b c : Int) : impl_InRange.f a b c = some (decide (b ≤ a ∧ a ≤ c)) := by
  unfold impl_InRange.f
  by_cases h : b ≤ a <;> simp [h]

theorem l1In_v (a b c : Int) : spec_l1In.f a b c = some (decide (b ≤ a ∧ a ≤ c)) := by
  unfold spec_l1In.f
  by_cases h : b ≤ a <;> simp [h]

theorem Mod_v (a b : Int) : spec_Mod.f a b = some (if 1 ≤ b ∧ b ≤ 1000000000000 then a % b else 0) := by
  unfold spec_Mod.f
  rw [l1In_v]
  by_cases h2 : 1 ≤ b ∧ b ≤ 1000000000000
  · have hb : ¬ b = 0 := by omega
    have h3 := Int.lt_tmod_of_pos a (show 0 < b by omega)
    have h4 := Int.tmod_lt_of_pos a (show 0 < b by omega)
    rw [if_pos h2]
    simp only [h2, hb, and_self, decide_true, Option.bind_some, if_true, if_false]
    rw [w64 (i := Int.tmod a b + b) (by omega) (by omega), Int.tmod_eq_emod_of_nonneg (a := Int.tmod a b + b) (by omega)]
    congr 1
    have h5 := Int.tmod_add_tdiv_mul a b
    rw [Int.add_emod_right]
    conv => rhs; rw [← h5]
    rw [Int.add_mul_emod_self_right]
  · rw [if_neg h2]
    simp [h2]
theorem iMod_v (a b : Int) : impl_Mod.f a b = spec_Mod.f a b := by
  unfold impl_Mod.f spec_Mod.f
  simp only [InRange_v, l1In_v]
end OfFnExactMod
open OfFnExactMod in
theorem FnExactMod : laws_FnExactMod.Pure := by
  intro a b _ _
  unfold laws_FnExactMod.f
  rw [iMod_v, Mod_v]
  simp
end Go.Proofs.Ythlpogndjhkkkaa.Pure
