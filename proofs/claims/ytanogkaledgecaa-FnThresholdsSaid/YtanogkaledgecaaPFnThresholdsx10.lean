/- The machine's side of a law: what its Go functions compute, as Lean functions, and the walks that show it; laid by this session's program (wip/tools) out of the translation. Conditions: those of each theorem. -/
import Derived.Test.YtanogkaledgecaaPFnThresholdsx0
import Derived.Test.YtanogkaledgecaaPFnThresholdsx1
import Derived.Test.YtanogkaledgecaaPFnThresholdsx2
import Derived.Test.YtanogkaledgecaaPFnThresholdsx3
import Derived.Test.YtanogkaledgecaaPFnThresholdsx4
import Derived.Test.YtanogkaledgecaaPFnThresholdsx5
import Derived.Test.YtanogkaledgecaaPFnThresholdsx8
import Derived.Test.YtanogkaledgecaaPFnThresholdsx9
namespace Go.Proofs.Ytanogkaledgecaa.PFnThresholds
open Go.RowKit Go.Proofs.YtanogkaledgecaaW.PrintWords Go.Proofs.YtanogkaledgecaaW.PrintLast Go.Proofs.YtanogkaledgecaaW.PrintMore
attribute [local go_sem] max2_int min2_int max_two min_two max_three min_three max_four min_four   -- for this text's walks alone
set_option linter.unusedVariables false
set_option linter.unusedSimpArgs false

/-! ### laws_FnThresholds: function 4 -/
mutual
def laws_FnThresholds.j0 : Nat → List Int → List (S46) → Bool → List Int → Int → Option (Bool)
  | 0, _, _, _, _, _ => none
  | k + 1, x0, x6, x48, x393000, x393001 => if x48 = true then (some false) else (laws_FnThresholds.l0 k x0 x6 0 x393000 x393001)
def laws_FnThresholds.l0 : Nat → List Int → List (S46) → Int → List Int → Int → Option (Bool)
  | 0, _, _, _, _, _ => none
  | k + 1, x0, x6, x7, x393000, x393001 => if x7 < (x6.length : Int) then (if 0 ≤ x7 then ((impl_HasKey.f k x393000 x393001 ((rd_T46 x6 x7).f0)).bind fun t413 => (if t413 = true then (laws_FnThresholds.l0 k x0 x6 (wrap64 (x7 + 1)) x393000 x393001) else (some false))) else (none)) else ((spec_DrawCountSigs.f k x0).bind fun bt414 => ((impl_CountSigs.f k bt414.1 bt414.2.1 bt414.2.2.1 bt414.2.2.2).bind fun t425 => ((spec_DrawIsSigBy.f k x0).bind fun bt426 => ((spec_DrawOneKey.f k x0).bind fun t432 => ((spec_CountSigs.f k bt414.1 bt414.2.1 bt414.2.2.1 bt414.2.2.2).bind fun t433 => (if t425 = t433 then (if t425 ≤ (bt414.1.length : Int) then ((impl_IsSigBy.f k bt426.1 bt426.2.1 bt426.2.2).bind fun t434 => ((spec_IsSigBy.f k bt426.1 bt426.2.1 bt426.2.2).bind fun t435 => (if (t434 == t435) = true then ((impl_OneKey.f t432).bind fun bt436 => ((impl_IsKeys.f k bt436.1 bt436.2).bind fun t440 => (if t432 ≥ 1 then (if (t440 == (decide (t432 ≤ 99))) = true then ((impl_TagOf.f k 3 bt414.2.2.1).bind fun t441 => ((spec_TagOf.f k 3 bt414.2.2.1).bind fun t442 => (some (t441 == t442)))) else (some false)) else (if (t440 == false) = true then ((impl_TagOf.f k 3 bt414.2.2.1).bind fun t443 => ((spec_TagOf.f k 3 bt414.2.2.1).bind fun t444 => (some (t443 == t444)))) else (some false))))) else (some false)))) else (some false)) else (some false)))))))
end
def laws_FnThresholds.f (k : Nat) (l0 : List Int) : Option (Bool) := (laws_big.f l0).bind fun t381 => (if t381 = true then (some true) else ((spec_DrawSignBy.f k l0).bind fun bt382 => ((impl_SignBy.f k bt382.1 bt382.2.1 bt382.2.2.1 bt382.2.2.2).bind fun t393 => ((impl_IsSigned.f k bt382.2.1 bt382.2.2.1 bt382.2.2.2 t393).bind fun t396 => ((impl_CanSign.f k bt382.2.1 bt382.2.2.1 bt382.1).bind fun t397 => (if (t396 != t397) = true then (laws_FnThresholds.j0 k l0 t393 true bt382.2.1 bt382.2.2.1) else ((impl_IsKeys.f k bt382.2.1 bt382.2.2.1).bind fun t398 => (if t398 = true then ((some (([] : List Int) : List Int)).bind fun y399 => (if y399.length + bt382.2.2.2.length < 17592186044416 then ((some (y399 ++ bt382.2.2.2 : List Int)).bind fun y402 => ((some (([1] : List Int) : List Int)).bind fun y405 => (if y402.length + y405.length < 17592186044416 then ((impl_IsSigned.f k bt382.2.1 bt382.2.2.1 (y402 ++ y405) t393).bind fun t411 => (laws_FnThresholds.j0 k l0 t393 t411 bt382.2.1 bt382.2.2.1)) else (none)))) else (none))) else (laws_FnThresholds.j0 k l0 t393 false bt382.2.1 bt382.2.2.1)))))))))
theorem laws_FnThresholds.mono_l : ∀ k, (∀ y0 y1 y2 y3 y4, LeO (laws_FnThresholds.j0 k y0 y1 y2 y3 y4) (laws_FnThresholds.j0 (k + 1) y0 y1 y2 y3 y4)) ∧ (∀ y0 y1 y2 y3 y4, LeO (laws_FnThresholds.l0 k y0 y1 y2 y3 y4) (laws_FnThresholds.l0 (k + 1) y0 y1 y2 y3 y4))
  | 0 => ⟨fun _ _ _ _ _ r h => by simp [laws_FnThresholds.j0] at h, fun _ _ _ _ _ r h => by simp [laws_FnThresholds.l0] at h⟩
  | k + 1 => by
    obtain ⟨ih0, ih1⟩ := laws_FnThresholds.mono_l k
    refine ⟨?_, ?_⟩
    · intro y0 y1 y2 y3 y4
      unfold laws_FnThresholds.j0
      repeat' first
      | (with_reducible exact ih0 _ _ _ _ _)
      | (with_reducible exact ih1 _ _ _ _ _)
      | (with_reducible exact impl_CanSign.mono _ _ _ _)
      | (with_reducible exact impl_CountSigs.mono _ _ _ _ _)
      | (with_reducible exact impl_HasKey.mono _ _ _ _)
      | (with_reducible exact impl_IsKeys.mono _ _ _)
      | (with_reducible exact impl_IsSigBy.mono _ _ _ _)
      | (with_reducible exact impl_IsSigned.mono _ _ _ _ _)
      | (with_reducible exact impl_SignBy.mono _ _ _ _ _)
      | (with_reducible exact impl_TagOf.mono _ _ _)
      | (with_reducible exact spec_CountSigs.mono _ _ _ _ _)
      | (with_reducible exact spec_DrawCountSigs.mono _ _)
      | (with_reducible exact spec_DrawIsSigBy.mono _ _)
      | (with_reducible exact spec_DrawOneKey.mono _ _)
      | (with_reducible exact spec_DrawSignBy.mono _ _)
      | (with_reducible exact spec_IsSigBy.mono _ _ _ _)
      | (with_reducible exact spec_TagOf.mono _ _ _)
      | (with_reducible exact LeO.refl _)
      | (with_reducible exact za34 _)
      | (with_reducible refine za33 ?_ ?_)
      | (with_reducible refine za32 ?_ (fun _ => ?_))
      | exact ih0 _ _ _ _ _
      | exact ih1 _ _ _ _ _
      | exact impl_CanSign.mono _ _ _ _
      | exact impl_CountSigs.mono _ _ _ _ _
      | exact impl_HasKey.mono _ _ _ _
      | exact impl_IsKeys.mono _ _ _
      | exact impl_IsSigBy.mono _ _ _ _
      | exact impl_IsSigned.mono _ _ _ _ _
      | exact impl_SignBy.mono _ _ _ _ _
      | exact impl_TagOf.mono _ _ _
      | exact spec_CountSigs.mono _ _ _ _ _
      | exact spec_DrawCountSigs.mono _ _
      | exact spec_DrawIsSigBy.mono _ _
      | exact spec_DrawOneKey.mono _ _
      | exact spec_DrawSignBy.mono _ _
      | exact spec_IsSigBy.mono _ _ _ _
      | exact spec_TagOf.mono _ _ _
      | exact za34 _
      | refine za33 ?_ ?_
      | refine za32 ?_ (fun _ => ?_)
    · intro y0 y1 y2 y3 y4
      unfold laws_FnThresholds.l0
      repeat' first
      | (with_reducible exact ih0 _ _ _ _ _)
      | (with_reducible exact ih1 _ _ _ _ _)
      | (with_reducible exact impl_CanSign.mono _ _ _ _)
      | (with_reducible exact impl_CountSigs.mono _ _ _ _ _)
      | (with_reducible exact impl_HasKey.mono _ _ _ _)
      | (with_reducible exact impl_IsKeys.mono _ _ _)
      | (with_reducible exact impl_IsSigBy.mono _ _ _ _)
      | (with_reducible exact impl_IsSigned.mono _ _ _ _ _)
      | (with_reducible exact impl_SignBy.mono _ _ _ _ _)
      | (with_reducible exact impl_TagOf.mono _ _ _)
      | (with_reducible exact spec_CountSigs.mono _ _ _ _ _)
      | (with_reducible exact spec_DrawCountSigs.mono _ _)
      | (with_reducible exact spec_DrawIsSigBy.mono _ _)
      | (with_reducible exact spec_DrawOneKey.mono _ _)
      | (with_reducible exact spec_DrawSignBy.mono _ _)
      | (with_reducible exact spec_IsSigBy.mono _ _ _ _)
      | (with_reducible exact spec_TagOf.mono _ _ _)
      | (with_reducible exact LeO.refl _)
      | (with_reducible exact za34 _)
      | (with_reducible refine za33 ?_ ?_)
      | (with_reducible refine za32 ?_ (fun _ => ?_))
      | exact ih0 _ _ _ _ _
      | exact ih1 _ _ _ _ _
      | exact impl_CanSign.mono _ _ _ _
      | exact impl_CountSigs.mono _ _ _ _ _
      | exact impl_HasKey.mono _ _ _ _
      | exact impl_IsKeys.mono _ _ _
      | exact impl_IsSigBy.mono _ _ _ _
      | exact impl_IsSigned.mono _ _ _ _ _
      | exact impl_SignBy.mono _ _ _ _ _
      | exact impl_TagOf.mono _ _ _
      | exact spec_CountSigs.mono _ _ _ _ _
      | exact spec_DrawCountSigs.mono _ _
      | exact spec_DrawIsSigBy.mono _ _
      | exact spec_DrawOneKey.mono _ _
      | exact spec_DrawSignBy.mono _ _
      | exact spec_IsSigBy.mono _ _ _ _
      | exact spec_TagOf.mono _ _ _
      | exact za34 _
      | refine za33 ?_ ?_
      | refine za32 ?_ (fun _ => ?_)
theorem laws_FnThresholds.mono : ∀ a0 k, LeO (laws_FnThresholds.f k a0) (laws_FnThresholds.f (k + 1) a0) := by
  intro a0 k
  obtain ⟨ih0, ih1⟩ := laws_FnThresholds.mono_l k
  unfold laws_FnThresholds.f
  repeat' first
      | (with_reducible exact ih0 _ _ _ _ _)
      | (with_reducible exact ih1 _ _ _ _ _)
      | (with_reducible exact impl_CanSign.mono _ _ _ _)
      | (with_reducible exact impl_CountSigs.mono _ _ _ _ _)
      | (with_reducible exact impl_HasKey.mono _ _ _ _)
      | (with_reducible exact impl_IsKeys.mono _ _ _)
      | (with_reducible exact impl_IsSigBy.mono _ _ _ _)
      | (with_reducible exact impl_IsSigned.mono _ _ _ _ _)
      | (with_reducible exact impl_SignBy.mono _ _ _ _ _)
      | (with_reducible exact impl_TagOf.mono _ _ _)
      | (with_reducible exact spec_CountSigs.mono _ _ _ _ _)
      | (with_reducible exact spec_DrawCountSigs.mono _ _)
      | (with_reducible exact spec_DrawIsSigBy.mono _ _)
      | (with_reducible exact spec_DrawOneKey.mono _ _)
      | (with_reducible exact spec_DrawSignBy.mono _ _)
      | (with_reducible exact spec_IsSigBy.mono _ _ _ _)
      | (with_reducible exact spec_TagOf.mono _ _ _)
      | (with_reducible exact LeO.refl _)
      | (with_reducible exact za34 _)
      | (with_reducible refine za33 ?_ ?_)
      | (with_reducible refine za32 ?_ (fun _ => ?_))
      | exact ih0 _ _ _ _ _
      | exact ih1 _ _ _ _ _
      | exact impl_CanSign.mono _ _ _ _
      | exact impl_CountSigs.mono _ _ _ _ _
      | exact impl_HasKey.mono _ _ _ _
      | exact impl_IsKeys.mono _ _ _
      | exact impl_IsSigBy.mono _ _ _ _
      | exact impl_IsSigned.mono _ _ _ _ _
      | exact impl_SignBy.mono _ _ _ _ _
      | exact impl_TagOf.mono _ _ _
      | exact spec_CountSigs.mono _ _ _ _ _
      | exact spec_DrawCountSigs.mono _ _
      | exact spec_DrawIsSigBy.mono _ _
      | exact spec_DrawOneKey.mono _ _
      | exact spec_DrawSignBy.mono _ _
      | exact spec_IsSigBy.mono _ _ _ _
      | exact spec_TagOf.mono _ _ _
      | exact za34 _
      | refine za33 ?_ ?_
      | refine za32 ?_ (fun _ => ?_)
def laws_FnThresholds.T5 : Bool × List (List Nat × List Nat) := (true, [([], []), ([], []), ([], []), ([0, 1, 2], [0, 1, 2]), ([], []), ([], []), ([4, 5, 3], [4, 5]), ([3, 6], [3, 6]), ([7, 6], [7]), ([8], [8]), ([9, 8, 8], [8, 9]), ([10, 10, 8], [8, 10]), ([11], [11]), ([11], [11]), ([11], [11]), ([13, 14, 11, 11], [11, 13, 14]), ([11], [11]), ([15, 16, 15, 11], [11, 15, 16]), ([11], [11]), ([12, 17, 18, 17, 11], [11, 12, 17, 18]), ([11, 19, 8], [8, 11, 19]), ([8, 20], [8, 20])])
def laws_FnThresholds.B5 : List Nat := [0, 0, 0, 7, 0, 0, 63, 127, 255, 511, 1023, 2047, 4095, 4095, 4095, 28671, 4095, 126975, 4095, 524287, 1048575, 2097151]
theorem laws_FnThresholds.tab5 : rtab .any (opsOf Try.f4 5) = laws_FnThresholds.T5 := by kernel_rfl
theorem laws_FnThresholds.bits5 : waitsOk laws_FnThresholds.T5.2 laws_FnThresholds.B5 = true := by kernel_rfl
def laws_FnThresholds.T10 : Bool × List (List Nat × List Nat) := (true, [([], []), ([], []), ([], []), ([1, 2], [1, 2]), ([3], [3]), ([4], [4]), ([0, 5], [0, 5]), ([6], [6])])
def laws_FnThresholds.B10 : List Nat := [0, 0, 0, 6, 14, 30, 63, 127]
theorem laws_FnThresholds.tab10 : rtab .any (opsOf Try.f4 10) = laws_FnThresholds.T10 := by kernel_rfl
theorem laws_FnThresholds.bits10 : waitsOk laws_FnThresholds.T10.2 laws_FnThresholds.B10 = true := by kernel_rfl
def laws_FnThresholds.T16 : Bool × List (List Nat × List Nat) := (true, [([], []), ([], []), ([], []), ([], []), ([1, 2, 3], [1, 2, 3]), ([0, 4], [0, 4]), ([5, 4], [5]), ([6], [6]), ([6], [6]), ([8, 6], [6, 8]), ([9, 6], [6, 9]), ([7, 10, 6], [6, 7, 10]), ([6, 11], [6, 11]), ([12, 6], [12]), ([13], [13]), ([13], [13]), ([14, 15, 13, 13], [13, 14, 15]), ([13], [13]), ([13], [13]), ([17, 18, 16, 13], [13, 17, 18]), ([16, 19, 13], [13, 16, 19]), ([13, 20], [13, 20]), ([21, 19], [21]), ([22], [22]), ([23, 22, 22], [22, 23]), ([24, 24, 22], [22, 24]), ([22], [22]), ([26, 22], [22, 26]), ([27, 25, 22], [22, 27]), ([28], [28]), ([29, 28], [28, 29]), ([28, 30, 22], [22, 28, 30]), ([25, 31, 22], [22, 25, 31]), ([22, 32], [22, 32]), ([33, 28], [33]), ([34], [34]), ([35, 34, 34], [34, 35]), ([34], [34]), ([37, 36, 34], [34, 37]), ([36, 38, 34], [34, 36, 38]), ([34, 39], [34, 39]), ([40, 38, 0, 1, 2, 3, 4, 5, 6, 7, 8, 9, 10, 11, 12, 13, 14, 15, 16, 17, 18, 19, 20, 21, 22, 23, 24, 25, 26, 27, 28, 29, 30, 31, 32, 33, 34, 35, 36, 37, 38, 39, 40], [40])])
def laws_FnThresholds.B16 : List Nat := [0, 0, 0, 0, 14, 31, 63, 127, 127, 383, 895, 2047, 4095, 8191, 16383, 16383, 65535, 16383, 16383, 524287, 1048575, 2097151, 4194303, 8388607, 16777215, 33554431, 8388607, 75497471, 268435455, 536870911, 1073741823, 2147483647, 4294967295, 8589934591, 17179869183, 34359738367, 68719476735, 34359738367, 274877906943, 549755813887, 1099511627775, 2199023255551]
theorem laws_FnThresholds.tab16 : rtab .any (opsOf Try.f4 16) = laws_FnThresholds.T16 := by kernel_rfl
theorem laws_FnThresholds.bits16 : waitsOk laws_FnThresholds.T16.2 laws_FnThresholds.B16 = true := by kernel_rfl
abbrev tm0 : Array Bool := #[false, false, false, false, false, false, false, false, false, false, false, false, false, false, false, false, false, false, false, false, false, false]
abbrev tm1 : Array Bool := #[false, true, false, false, false, false, false, false, false, false, false, false, false, false, false, false, false, false, false, false, false, false]
abbrev tm2 : Array Bool := #[false, true, true, false, false, false, false, false, false, false, false, false, false, false, false, false, false, false, false, false, false, false]
abbrev tm3 : Array Bool := #[false, true, true, false, false, true, false, false, false, false, false, false, false, false, false, false, false, false, false, false, false, false]
abbrev tm4 : Array Bool := #[true, true, true, false, false, true, false, false, false, false, false, false, false, false, false, false, false, false, false, false, false, false]
abbrev tm5 : Array Bool := #[true, true, true, false, true, true, false, false, false, false, false, false, false, false, false, false, false, false, false, false, false, false]
abbrev tm6 : Array Bool := #[true, true, true, true, true, true, false, false, false, false, false, false, false, false, false, false, false, false, false, false, false, false]
abbrev tm7 : Array Bool := #[true, true, true, true, true, true, true, false, false, false, false, false, false, false, false, false, false, false, false, false, false, false]
abbrev tm8 : Array Bool := #[true, true, true, true, true, true, true, true, false, false, false, false, false, false, false, false, false, false, false, false, false, false]
abbrev tm9 : Array Bool := #[true, true, true, true, true, true, true, true, true, false, false, false, false, false, false, false, false, false, false, false, false, false]
abbrev tm10 : Array Bool := #[true, true, true, true, true, true, true, true, true, true, false, false, false, false, false, false, false, false, false, false, false, false]
abbrev tm11 : Array Bool := #[true, true, true, true, true, true, true, true, true, true, true, false, false, false, false, false, false, false, false, false, false, false]
abbrev tm12 : Array Bool := #[true, true, true, true, true, true, true, true, true, true, true, true, false, false, false, false, false, false, false, false, false, false]
abbrev tm13 : Array Bool := #[true, true, true, true, true, true, true, true, true, true, true, true, true, false, false, false, false, false, false, false, false, false]
abbrev tm14 : Array Bool := #[true, true, true, true, true, true, true, true, true, true, true, true, true, true, false, false, false, false, false, false, false, false]
abbrev tm15 : Array Bool := #[true, true, true, true, true, true, true, true, true, true, true, true, true, true, true, false, false, false, false, false, false, false]
abbrev tm16 : Array Bool := #[true, true, true, true, true, true, true, true, true, true, true, true, true, true, true, true, false, false, false, false, false, false]
abbrev tm17 : Array Bool := #[true, true, true, true, true, true, true, true, true, true, true, true, true, true, true, true, true, false, false, false, false, false]
abbrev tm18 : Array Bool := #[true, true, true, true, true, true, true, true, true, true, true, true, true, true, true, true, true, true, false, false, false, false]
abbrev tm19 : Array Bool := #[true, true, true, true, true, true, true, true, true, true, true, true, true, true, true, true, true, true, true, false, false, false]
abbrev tm20 : Array Bool := #[true, true, true, true, true, true, true, true, true, true, true, true, true, true, true, true, true, true, true, true, false, false]
abbrev tm21 : Array Bool := #[true, true, true, true, true, true, true, true, true, true, true, true, true, true, true, true, true, true, true, true, true, false]
abbrev tm22 : Array Bool := #[true, true, true, true, true, true, true, true, true, true, true, true, true, true, true, true, true, true, true, true, true, true]
abbrev tm23 : Array Bool := #[true, true, true, true, true, true, true, true, true, true, true, true, false, false, true, false, false, false, false, false, false, false]
abbrev tm24 : Array Bool := #[true, true, true, true, true, true, true, true, true, true, true, true, false, false, true, false, false, false, true, false, false, false]
abbrev tm25 : Array Bool := #[true, true, true, true, true, true, true, true, true, true, true, true, true, false, true, false, false, false, true, false, false, false]
abbrev tm26 : Array Bool := #[true, true, true, true, true, true, true, true, true, true, true, true, true, true, true, true, true, false, true, false, false, false]
abbrev tm27 : Array Bool := #[true, true, true, true, true, true, true, true, true, true, true, true, true, true, true, false, false, false, true, false, false, false]
abbrev tm28 : Array Bool := #[true, true, true, true, true, true, true, true, true, true, true, true, true, false, true, false, true, false, true, false, false, false]
abbrev tm29 : Array Bool := #[true, true, true, true, true, true, true, true, true, true, true, true, true, true, true, true, false, false, true, false, false, false]
abbrev tm30 : Array Bool := #[true, true, true, true, true, true, true, true, true, true, true, true, true, true, true, false, true, false, true, false, false, false]
abbrev tm31 : Array Bool := #[false, false, false, false, false, false, false, false]
abbrev tm32 : Array Bool := #[false, true, false, false, false, false, false, false]
abbrev tm33 : Array Bool := #[false, true, true, false, false, false, false, false]
abbrev tm34 : Array Bool := #[false, true, true, true, false, false, false, false]
abbrev tm35 : Array Bool := #[false, true, true, true, true, false, false, false]
abbrev tm36 : Array Bool := #[true, true, true, true, true, false, false, false]
abbrev tm37 : Array Bool := #[true, true, true, true, true, true, false, false]
abbrev tm38 : Array Bool := #[true, true, true, true, true, true, true, false]
abbrev tm39 : Array Bool := #[true, true, true, true, true, true, true, true]
abbrev tm40 : Array Bool := #[false, false, false, false, false, false, false, false, false, false, false, false, false, false, false, false, false, false, false, false, false, false, false, false, false, false, false, false, false, false, false, false, false, false, false, false, false, false, false, false, false, false]
abbrev tm41 : Array Bool := #[true, false, false, false, false, false, false, false, false, false, false, false, false, false, false, false, false, false, false, false, false, false, false, false, false, false, false, false, false, false, false, false, false, false, false, false, false, false, false, false, false, false]
abbrev tm42 : Array Bool := #[true, false, true, false, false, false, false, false, false, false, false, false, false, false, false, false, false, false, false, false, false, false, false, false, false, false, false, false, false, false, false, false, false, false, false, false, false, false, false, false, false, false]
abbrev tm43 : Array Bool := #[true, false, true, true, false, false, false, false, false, false, false, false, false, false, false, false, false, false, false, false, false, false, false, false, false, false, false, false, false, false, false, false, false, false, false, false, false, false, false, false, false, false]
abbrev tm44 : Array Bool := #[true, true, true, true, false, false, false, false, false, false, false, false, false, false, false, false, false, false, false, false, false, false, false, false, false, false, false, false, false, false, false, false, false, false, false, false, false, false, false, false, false, false]
abbrev tm45 : Array Bool := #[true, true, true, true, true, false, false, false, false, false, false, false, false, false, false, false, false, false, false, false, false, false, false, false, false, false, false, false, false, false, false, false, false, false, false, false, false, false, false, false, false, false]
abbrev tm46 : Array Bool := #[true, true, true, true, true, true, false, false, false, false, false, false, false, false, false, false, false, false, false, false, false, false, false, false, false, false, false, false, false, false, false, false, false, false, false, false, false, false, false, false, false, false]
abbrev tm47 : Array Bool := #[true, true, true, true, true, true, true, false, false, false, false, false, false, false, false, false, false, false, false, false, false, false, false, false, false, false, false, false, false, false, false, false, false, false, false, false, false, false, false, false, false, false]
abbrev tm48 : Array Bool := #[true, true, true, true, true, true, true, true, false, false, false, false, false, false, false, false, false, false, false, false, false, false, false, false, false, false, false, false, false, false, false, false, false, false, false, false, false, false, false, false, false, false]
abbrev tm49 : Array Bool := #[true, true, true, true, true, true, true, true, true, false, false, false, false, false, false, false, false, false, false, false, false, false, false, false, false, false, false, false, false, false, false, false, false, false, false, false, false, false, false, false, false, false]
abbrev tm50 : Array Bool := #[true, true, true, true, true, true, true, true, true, true, false, false, false, false, false, false, false, false, false, false, false, false, false, false, false, false, false, false, false, false, false, false, false, false, false, false, false, false, false, false, false, false]
abbrev tm51 : Array Bool := #[true, true, true, true, true, true, true, true, true, true, true, false, false, false, false, false, false, false, false, false, false, false, false, false, false, false, false, false, false, false, false, false, false, false, false, false, false, false, false, false, false, false]
abbrev tm52 : Array Bool := #[true, true, true, true, true, true, true, true, true, true, true, true, false, false, false, false, false, false, false, false, false, false, false, false, false, false, false, false, false, false, false, false, false, false, false, false, false, false, false, false, false, false]
abbrev tm53 : Array Bool := #[true, true, true, true, true, true, true, true, true, true, true, true, true, false, false, false, false, false, false, false, false, false, false, false, false, false, false, false, false, false, false, false, false, false, false, false, false, false, false, false, false, false]
abbrev tm54 : Array Bool := #[true, true, true, true, true, true, true, true, true, true, true, true, true, true, false, false, false, false, false, false, false, false, false, false, false, false, false, false, false, false, false, false, false, false, false, false, false, false, false, false, false, false]
abbrev tm55 : Array Bool := #[true, true, true, true, true, true, true, true, true, true, true, true, true, true, false, true, false, false, false, false, false, false, false, false, false, false, false, false, false, false, false, false, false, false, false, false, false, false, false, false, false, false]
abbrev tm56 : Array Bool := #[true, true, true, true, true, true, true, true, true, true, true, true, true, true, false, true, false, false, true, false, false, false, false, false, false, false, false, false, false, false, false, false, false, false, false, false, false, false, false, false, false, false]
abbrev tm57 : Array Bool := #[true, true, true, true, true, true, true, true, true, true, true, true, true, true, true, true, false, false, true, false, false, false, false, false, false, false, false, false, false, false, false, false, false, false, false, false, false, false, false, false, false, false]
abbrev tm58 : Array Bool := #[true, true, true, true, true, true, true, true, true, true, true, true, true, true, true, true, false, true, true, false, false, false, false, false, false, false, false, false, false, false, false, false, false, false, false, false, false, false, false, false, false, false]
abbrev tm59 : Array Bool := #[true, true, true, true, true, true, true, true, true, true, true, true, true, true, true, true, true, true, true, false, false, false, false, false, false, false, false, false, false, false, false, false, false, false, false, false, false, false, false, false, false, false]
abbrev tm60 : Array Bool := #[true, true, true, true, true, true, true, true, true, true, true, true, true, true, true, true, true, true, true, true, false, false, false, false, false, false, false, false, false, false, false, false, false, false, false, false, false, false, false, false, false, false]
abbrev tm61 : Array Bool := #[true, true, true, true, true, true, true, true, true, true, true, true, true, true, true, true, true, true, true, true, true, false, false, false, false, false, false, false, false, false, false, false, false, false, false, false, false, false, false, false, false, false]
abbrev tm62 : Array Bool := #[true, true, true, true, true, true, true, true, true, true, true, true, true, true, true, true, true, true, true, true, true, true, false, false, false, false, false, false, false, false, false, false, false, false, false, false, false, false, false, false, false, false]
abbrev tm63 : Array Bool := #[true, true, true, true, true, true, true, true, true, true, true, true, true, true, true, true, true, true, true, true, true, true, true, false, false, false, false, false, false, false, false, false, false, false, false, false, false, false, false, false, false, false]
abbrev tm64 : Array Bool := #[true, true, true, true, true, true, true, true, true, true, true, true, true, true, true, true, true, true, true, true, true, true, true, true, false, false, false, false, false, false, false, false, false, false, false, false, false, false, false, false, false, false]
abbrev tm65 : Array Bool := #[true, true, true, true, true, true, true, true, true, true, true, true, true, true, true, true, true, true, true, true, true, true, true, true, false, false, true, false, false, false, false, false, false, false, false, false, false, false, false, false, false, false]
abbrev tm66 : Array Bool := #[true, true, true, true, true, true, true, true, true, true, true, true, true, true, true, true, true, true, true, true, true, true, true, true, false, false, true, true, false, false, false, false, false, false, false, false, false, false, false, false, false, false]
abbrev tm67 : Array Bool := #[true, true, true, true, true, true, true, true, true, true, true, true, true, true, true, true, true, true, true, true, true, true, true, true, true, false, true, true, false, false, false, false, false, false, false, false, false, false, false, false, false, false]
abbrev tm68 : Array Bool := #[true, true, true, true, true, true, true, true, true, true, true, true, true, true, true, true, true, true, true, true, true, true, true, true, true, true, true, true, false, false, false, false, false, false, false, false, false, false, false, false, false, false]
abbrev tm69 : Array Bool := #[true, true, true, true, true, true, true, true, true, true, true, true, true, true, true, true, true, true, true, true, true, true, true, true, true, true, true, true, true, false, false, false, false, false, false, false, false, false, false, false, false, false]
abbrev tm70 : Array Bool := #[true, true, true, true, true, true, true, true, true, true, true, true, true, true, true, true, true, true, true, true, true, true, true, true, true, true, true, true, true, true, false, false, false, false, false, false, false, false, false, false, false, false]
abbrev tm71 : Array Bool := #[true, true, true, true, true, true, true, true, true, true, true, true, true, true, true, true, true, true, true, true, true, true, true, true, true, true, true, true, true, true, true, false, false, false, false, false, false, false, false, false, false, false]
abbrev tm72 : Array Bool := #[true, true, true, true, true, true, true, true, true, true, true, true, true, true, true, true, true, true, true, true, true, true, true, true, true, true, true, true, true, true, true, true, false, false, false, false, false, false, false, false, false, false]
abbrev tm73 : Array Bool := #[true, true, true, true, true, true, true, true, true, true, true, true, true, true, true, true, true, true, true, true, true, true, true, true, true, true, true, true, true, true, true, true, true, false, false, false, false, false, false, false, false, false]
abbrev tm74 : Array Bool := #[true, true, true, true, true, true, true, true, true, true, true, true, true, true, true, true, true, true, true, true, true, true, true, true, true, true, true, true, true, true, true, true, true, true, false, false, false, false, false, false, false, false]
abbrev tm75 : Array Bool := #[true, true, true, true, true, true, true, true, true, true, true, true, true, true, true, true, true, true, true, true, true, true, true, true, true, true, true, true, true, true, true, true, true, true, true, false, false, false, false, false, false, false]
abbrev tm76 : Array Bool := #[true, true, true, true, true, true, true, true, true, true, true, true, true, true, true, true, true, true, true, true, true, true, true, true, true, true, true, true, true, true, true, true, true, true, true, true, false, false, false, false, false, false]
abbrev tm77 : Array Bool := #[true, true, true, true, true, true, true, true, true, true, true, true, true, true, true, true, true, true, true, true, true, true, true, true, true, true, true, true, true, true, true, true, true, true, true, true, false, true, false, false, false, false]
abbrev tm78 : Array Bool := #[true, true, true, true, true, true, true, true, true, true, true, true, true, true, true, true, true, true, true, true, true, true, true, true, true, true, true, true, true, true, true, true, true, true, true, true, true, true, false, false, false, false]
abbrev tm79 : Array Bool := #[true, true, true, true, true, true, true, true, true, true, true, true, true, true, true, true, true, true, true, true, true, true, true, true, true, true, true, true, true, true, true, true, true, true, true, true, true, true, true, false, false, false]
abbrev tm80 : Array Bool := #[true, true, true, true, true, true, true, true, true, true, true, true, true, true, true, true, true, true, true, true, true, true, true, true, true, true, true, true, true, true, true, true, true, true, true, true, true, true, true, true, false, false]
abbrev tm81 : Array Bool := #[true, true, true, true, true, true, true, true, true, true, true, true, true, true, true, true, true, true, true, true, true, true, true, true, true, true, true, true, true, true, true, true, true, true, true, true, true, true, true, true, true, false]
abbrev tm82 : Array Bool := #[true, true, true, true, true, true, true, true, true, true, true, true, true, true, true, true, true, true, true, true, true, true, true, true, true, true, true, true, true, true, true, true, true, true, true, true, true, true, true, true, true, true]
abbrev za := @List.setIfInBounds_toArray
abbrev zb := @Aside0.mk
abbrev zc := @List.set_cons_zero
abbrev zd := @List.set_cons_succ
abbrev ze := @Kd.R_drewN
abbrev zf := @Kd.R_alloc
abbrev zg := @Kd.R_drew
abbrev zh := @Kd.R_below
abbrev zi := @pw_below_drewN
abbrev zj := @below_set
abbrev zk := @below_drew1
abbrev zl := @Kd.R_reads'
abbrev zm := @blk_drewN
abbrev zn := @blk_drew
abbrev zo := @blk_alloc
abbrev zp := @below_alloc
abbrev zq := @blk_cell
abbrev zr := @Option.bind_eq_some_iff
abbrev zs := @blk_below
abbrev zt := @List.map_toArray
abbrev zu := @List.length_take
abbrev zv := @List.length_drop
abbrev zw := @Kd.R_mono
abbrev zx := @Kd.C_drewN
abbrev zy := @Kd.C_drew
abbrev zz := @Kd.C_alloc
abbrev zA := @any_of
abbrev zB := @List.map_cons
abbrev zC := @List.map_nil
abbrev zD := @below_step
abbrev zE := @Kd.R_elder'
abbrev zF := @Kd.R_far
abbrev zG := @below_size
abbrev zH := @Kd.R_new'
abbrev zI := @Kd.R_base
abbrev zJ := @Kd.R_lt
abbrev zK := @Kd.R_types
set_option maxHeartbeats 8000000 in
set_option maxRecDepth 100000 in
theorem laws_FnThresholds.calls (k : Nat) (A0 : Option Addr) (c0 : Nat) (l0 : List Int) (r : Bool) (w : World) (hr0 : Kd.C (Kd.int .u8) w A0 l0.length l0) (hc0 : l0.length ≤ c0) (hrt : r = true) (h : laws_FnThresholds.f k l0 = some r) :
  Calls Try.prog 4 #[.slice A0 l0.length c0] w fun e w' => e = .returned (.bool r) ∧ Below w.heap.size w w' := by
 have hu37 := Try.underlying37
 have hu46 := Try.underlying46
 have HR0 := zb hr0
 have HC0 := zb hc0
 clear hr0 hc0
 have HB := zb (Below.refl w.heap.size w)
 have H : ((laws_big.f l0).bind fun t381 => (if t381 = true then (some true) else ((spec_DrawSignBy.f k l0).bind fun bt382 => ((impl_SignBy.f k bt382.1 bt382.2.1 bt382.2.2.1 bt382.2.2.2).bind fun t393 => ((impl_IsSigned.f k bt382.2.1 bt382.2.2.1 bt382.2.2.2 t393).bind fun t396 => ((impl_CanSign.f k bt382.2.1 bt382.2.2.1 bt382.1).bind fun t397 => (if (t396 != t397) = true then (laws_FnThresholds.j0 k l0 t393 true bt382.2.1 bt382.2.2.1) else ((impl_IsKeys.f k bt382.2.1 bt382.2.2.1).bind fun t398 => (if t398 = true then ((some (([] : List Int) : List Int)).bind fun y399 => (if y399.length + bt382.2.2.2.length < 17592186044416 then ((some (y399 ++ bt382.2.2.2 : List Int)).bind fun y402 => ((some (([1] : List Int) : List Int)).bind fun y405 => (if y402.length + y405.length < 17592186044416 then ((impl_IsSigned.f k bt382.2.1 bt382.2.2.1 (y402 ++ y405) t393).bind fun t411 => (laws_FnThresholds.j0 k l0 t393 t411 bt382.2.1 bt382.2.2.1)) else (none)))) else (none))) else (laws_FnThresholds.j0 k l0 t393 false bt382.2.1 bt382.2.2.1)))))))))) = some r := h
 clear h
 replace H := zr.mp H
 obtain ⟨t381, A20, H⟩ := H
 replace H : (if t381 = true then (some true) else ((spec_DrawSignBy.f k l0).bind fun bt382 => ((impl_SignBy.f k bt382.1 bt382.2.1 bt382.2.2.1 bt382.2.2.2).bind fun t393 => ((impl_IsSigned.f k bt382.2.1 bt382.2.2.1 bt382.2.2.2 t393).bind fun t396 => ((impl_CanSign.f k bt382.2.1 bt382.2.2.1 bt382.1).bind fun t397 => (if (t396 != t397) = true then (laws_FnThresholds.j0 k l0 t393 true bt382.2.1 bt382.2.2.1) else ((impl_IsKeys.f k bt382.2.1 bt382.2.2.1).bind fun t398 => (if t398 = true then ((some (([] : List Int) : List Int)).bind fun y399 => (if y399.length + bt382.2.2.2.length < 17592186044416 then ((some (y399 ++ bt382.2.2.2 : List Int)).bind fun y402 => ((some (([1] : List Int) : List Int)).bind fun y405 => (if y402.length + y405.length < 17592186044416 then ((impl_IsSigned.f k bt382.2.1 bt382.2.2.1 (y402 ++ y405) t393).bind fun t411 => (laws_FnThresholds.j0 k l0 t393 t411 bt382.2.1 bt382.2.2.1)) else (none)))) else (none))) else (laws_FnThresholds.j0 k l0 t393 false bt382.2.1 bt382.2.2.1))))))))) = some r := H
 have A2 := zb A20
 clear A20
 by_cases c3 : t381 = true
 ·subst c3
  have H1 : (some true) = some r := by rw [if_pos rfl] at H; exact H
  clear H
  have H := H1
  clear H1
  obtain rfl := za37 H
  go_enter Try.func4, Try.ntmps4
  go_wp2_with (first | ((with_reducible refine gate_callee (f := 16) rfl ?_); refine goesL_ (some 16) rfl rfl Try.func16 (by kernel_rfl) rfl #[.slice A0 l0.length c0] rfl (by (try simp only [zt, zB, zC]); first | done | rfl | (simp only [zv, zu]; rfl)) ?_; (with_reducible refine (laws_big.calls _ _ l0 true _ ?side1 ?side2 A2.out).mono ?_); (case side1 => repeat (first | exact HR0.out | (with_reducible refine zz ?_ _) | (with_reducible refine zx ?_ _) | (with_reducible refine zy ?_))); (case side2 => exact HC0.out); rintro e w' ⟨rfl, ⟨nd, rfl⟩⟩; refine ⟨_, rfl, ?_⟩))
  go_ret
  exact ⟨by first | rfl | (simp [errW_none, errW_some] <;> rfl) | (simp [*, errW_none, errW_some] <;> rfl), by repeat (first | (with_reducible first | exact HB.out | apply zp | apply zi | apply zk) | exact HB.out)⟩
 ·replace c3 := Bool.eq_false_iff.mpr c3
  subst c3
  have H1 : ((spec_DrawSignBy.f k l0).bind fun bt382 => ((impl_SignBy.f k bt382.1 bt382.2.1 bt382.2.2.1 bt382.2.2.2).bind fun t393 => ((impl_IsSigned.f k bt382.2.1 bt382.2.2.1 bt382.2.2.2 t393).bind fun t396 => ((impl_CanSign.f k bt382.2.1 bt382.2.2.1 bt382.1).bind fun t397 => (if (t396 != t397) = true then (laws_FnThresholds.j0 k l0 t393 true bt382.2.1 bt382.2.2.1) else ((impl_IsKeys.f k bt382.2.1 bt382.2.2.1).bind fun t398 => (if t398 = true then ((some (([] : List Int) : List Int)).bind fun y399 => (if y399.length + bt382.2.2.2.length < 17592186044416 then ((some (y399 ++ bt382.2.2.2 : List Int)).bind fun y402 => ((some (([1] : List Int) : List Int)).bind fun y405 => (if y402.length + y405.length < 17592186044416 then ((impl_IsSigned.f k bt382.2.1 bt382.2.2.1 (y402 ++ y405) t393).bind fun t411 => (laws_FnThresholds.j0 k l0 t393 t411 bt382.2.1 bt382.2.2.1)) else (none)))) else (none))) else (laws_FnThresholds.j0 k l0 t393 false bt382.2.1 bt382.2.2.1)))))))) = some r := by rw [if_neg (show ¬ (false = true) by decide)] at H; exact H
  clear H
  have H := H1
  clear H1
  replace H := zr.mp H
  obtain ⟨⟨t382, t385, t388, t389⟩, A40, H⟩ := H
  replace H : ((impl_SignBy.f k t382 t385 t388 t389).bind fun t393 => ((impl_IsSigned.f k t385 t388 t389 t393).bind fun t396 => ((impl_CanSign.f k t385 t388 t382).bind fun t397 => (if (t396 != t397) = true then (laws_FnThresholds.j0 k l0 t393 true t385 t388) else ((impl_IsKeys.f k t385 t388).bind fun t398 => (if t398 = true then ((some (([] : List Int) : List Int)).bind fun y399 => (if y399.length + t389.length < 17592186044416 then ((some (y399 ++ t389 : List Int)).bind fun y402 => ((some (([1] : List Int) : List Int)).bind fun y405 => (if y402.length + y405.length < 17592186044416 then ((impl_IsSigned.f k t385 t388 (y402 ++ y405) t393).bind fun t411 => (laws_FnThresholds.j0 k l0 t393 t411 t385 t388)) else (none)))) else (none))) else (laws_FnThresholds.j0 k l0 t393 false t385 t388))))))) = some r := H
  have A4 := zb A40
  clear A40
  replace H := zr.mp H
  obtain ⟨t393, A50, H⟩ := H
  replace H : ((impl_IsSigned.f k t385 t388 t389 t393).bind fun t396 => ((impl_CanSign.f k t385 t388 t382).bind fun t397 => (if (t396 != t397) = true then (laws_FnThresholds.j0 k l0 t393 true t385 t388) else ((impl_IsKeys.f k t385 t388).bind fun t398 => (if t398 = true then ((some (([] : List Int) : List Int)).bind fun y399 => (if y399.length + t389.length < 17592186044416 then ((some (y399 ++ t389 : List Int)).bind fun y402 => ((some (([1] : List Int) : List Int)).bind fun y405 => (if y402.length + y405.length < 17592186044416 then ((impl_IsSigned.f k t385 t388 (y402 ++ y405) t393).bind fun t411 => (laws_FnThresholds.j0 k l0 t393 t411 t385 t388)) else (none)))) else (none))) else (laws_FnThresholds.j0 k l0 t393 false t385 t388)))))) = some r := H
  have A5 := zb A50
  clear A50
  have HC6 := zb H
  clear H
  go_enter Try.func4, Try.ntmps4
  go_upto_region 5 with (first | ((with_reducible refine gate_callee (f := 16) rfl ?_); refine goesL_ (some 16) rfl rfl Try.func16 (by kernel_rfl) rfl #[.slice A0 l0.length c0] rfl (by (try simp only [zt, zB, zC]); first | done | rfl | (simp only [zv, zu]; rfl)) ?_; (with_reducible refine (laws_big.calls _ _ l0 false _ ?side1 ?side2 A2.out).mono ?_); (case side1 => repeat (first | exact HR0.out | (with_reducible refine zz ?_ _) | (with_reducible refine zx ?_ _) | (with_reducible refine zy ?_))); (case side2 => exact HC0.out); rintro e w' ⟨rfl, ⟨nd, rfl⟩⟩; refine ⟨_, rfl, ?_⟩) | ((with_reducible refine gate_callee (f := 17) rfl ?_); refine goesL_ (some 19) rfl rfl Try.func17 (by kernel_rfl) rfl #[.slice A0 l0.length c0] rfl (by (try simp only [zt, zB, zC]); first | done | rfl | (simp only [zv, zu]; rfl)) ?_; (with_reducible refine (spec_DrawSignBy.calls k _ _ l0 t382 t385 t388 t389 _ ?side1 ?side2 A4.out).mono ?_); (case side1 => repeat (first | exact HR0.out | (with_reducible refine zz ?_ _) | (with_reducible refine zx ?_ _) | (with_reducible refine zy ?_))); (case side2 => exact HC0.out); rintro e w7 ⟨v383, v386, v390, rfl, ho0, ho1, ho2, hb⟩; refine ⟨_, rfl, ?_⟩; have n0_ := zb (za31 ho0 (zG (by repeat (first | (with_reducible first | exact HB.out | apply zp | apply zi | apply zk) | exact HB.out)))); have n1_ := zb (za31 ho1 (zG (by repeat (first | (with_reducible first | exact HB.out | apply zp | apply zi | apply zk) | exact HB.out)))); have n2_ := zb (za31 ho2 (zG (by repeat (first | (with_reducible first | exact HB.out | apply zp | apply zi | apply zk) | exact HB.out)))); have n3_ := zb (zD (by repeat (first | (with_reducible first | exact HB.out | apply zp | apply zi | apply zk) | exact HB.out)) hb); clear HB; have HO384 := n0_; have HO387 := n1_; have HO391 := n2_; have HB := n3_; clear n0_ n1_ n2_ n3_; (try clear hb); (try clear hb2); (try clear hk); (try clear hi); (try clear ho0); (try clear ho1); (try clear ho2)) | ((with_reducible refine gate_dst (N := 4) rfl ?_); (try (refine gate_guard (by rfl) ?_; dsimp only)); refine box_event ?hg (N := 4) ?hd (cs := #[.slice none 0 0, .int .i64 0]) (t := 37) ?hr ?_; (case hd => rfl); (case hg => rfl); (case hr => first | (go_simp; done) | (go_simp; rfl)); intro gb392 hg w8 hbox hb; have n0_ := zb (zh (by (with_reducible repeat (first | apply zf | apply ze | apply zg)); exact HO384.out) hb); have n1_ := zb (zh (by (with_reducible repeat (first | apply zf | apply ze | apply zg)); exact HO387.out) hb); have n2_ := zb (zh (by (with_reducible repeat (first | apply zf | apply ze | apply zg)); exact HO391.out) hb); have n3_ := zb (zD (by repeat (first | (with_reducible first | exact HB.out | apply zp | apply zi | apply zk) | exact HB.out)) hb); have n4_ := zb (hbox); have n5_ := zb ((by rw [hg]; exact (zG (by repeat (first | (with_reducible first | exact HB.out | apply zp | apply zi | apply zk) | exact HB.out))) : w.heap.size ≤ gb392)); have n6_ := zb ((by rw [hg]; exact (zG (by repeat (first | (with_reducible first | exact HB.out | apply zp | apply zi | apply zk) | exact HB.out))) : w.heap.size ≤ gb392)); clear HO384; clear HO387; clear HO391; clear HB; have HO384 := n0_; have HO387 := n1_; have HO391 := n2_; have HB := n3_; have BK392 := n4_; have GW392 := n5_; have GE392 := n6_; clear n0_ n1_ n2_ n3_ n4_ n5_ n6_; clear hb hbox hg; obtain ⟨Ao9, co9, eo9⟩ := Kd.R_slice HO387.out; subst eo9; have hcz10_0 : w8.cell? ⟨gb392, 0, none⟩ = some (.slice none 0 0) := (zq BK392.out 0).trans rfl; have hcz10_1 : w8.cell? ⟨gb392, 1, none⟩ = some (.int .i64 0) := (zq BK392.out 1).trans rfl; have hfz10_0 := blk_frozen BK392.out 0; have hfz10_1 := blk_frozen BK392.out 1; obtain ⟨Ao11, co11, eo11⟩ := Kd.R_slice HO384.out; subst eo11; obtain ⟨Ao12, co12, eo12⟩ := Kd.R_slice HO391.out; subst eo12) | ((with_reducible refine gate_callee (f := 18) rfl ?_); refine goesL_ (some 26) rfl rfl Try.func18 (by kernel_rfl) rfl #[.slice Ao11 t382.length co11, .agg #[.slice Ao9 t385.length co9, .int .i64 t388], .slice Ao12 t389.length co12] rfl (by (try simp only [zt, zB, zC]); first | done | rfl | (simp only [zv, zu]; rfl)) ?_; (with_reducible refine (impl_SignBy.calls k _ _ t382 _ _ t385 t388 _ _ t389 t393 _ ?side1 ?side2 ?side3 ?side4 ?side5 ?side6 A5.out).mono ?_); (case side1 => refine (zl (e := 3) (base := w.heap.size) (ok := fun k_ => (some k_ ≠ (.slice Ao9 t385.length co9 : Value).ownBlock ∧ some k_ ≠ (.slice Ao12 t389.length co12 : Value).ownBlock)) (n := t382.length) (c := co11) ?_).2.2; exact (by (with_reducible repeat (first | apply zf | apply ze | apply zg)); exact (zw (zF (p := ⟨gb392, 1, none⟩) (zF (p := ⟨gb392, 0, none⟩) (zK HO384.out BK392.out (by decide)) (fun _ hk => hk.2) (.slice Ao9 t385.length co9)) (fun _ hk => hk.2) (.int .i64 t388)) (fun _ h_ => h_.1)))); (case side2 => exact (zl HO384.out).2.1); (case side3 => refine (zl (e := 3) (base := w.heap.size) (ok := fun k_ => (some k_ ≠ (.slice Ao11 t382.length co11 : Value).ownBlock ∧ some k_ ≠ (.slice Ao12 t389.length co12 : Value).ownBlock)) (n := t385.length) (c := co9) ?_).2.2; exact (by (with_reducible repeat (first | apply zf | apply ze | apply zg)); exact (zw (zF (p := ⟨gb392, 1, none⟩) (zF (p := ⟨gb392, 0, none⟩) (zK HO387.out BK392.out (by decide)) (fun _ hk => hk.2) (.slice Ao9 t385.length co9)) (fun _ hk => hk.2) (.int .i64 t388)) (fun _ h_ => h_.1)))); (case side4 => exact (zl HO387.out).2.1); (case side5 => refine (zl (e := 3) (base := w.heap.size) (ok := fun k_ => (some k_ ≠ (.slice Ao11 t382.length co11 : Value).ownBlock ∧ some k_ ≠ (.slice Ao9 t385.length co9 : Value).ownBlock)) (n := t389.length) (c := co12) ?_).2.2; exact (by (with_reducible repeat (first | apply zf | apply ze | apply zg)); exact (zw (zF (p := ⟨gb392, 1, none⟩) (zF (p := ⟨gb392, 0, none⟩) (zK HO391.out BK392.out (by decide)) (fun _ hk => hk.2) (.slice Ao9 t385.length co9)) (fun _ hk => hk.2) (.int .i64 t388)) (fun _ h_ => h_.1)))); (case side6 => exact (zl HO391.out).2.1); rintro e w13 ⟨v394, rfl, ho0, hb⟩; refine ⟨_, rfl, ?_⟩; have n0_ := zb (zh (by (with_reducible repeat (first | apply zf | apply ze | apply zg)); exact (zw (zF (p := ⟨gb392, 1, none⟩) (zF (p := ⟨gb392, 0, none⟩) (zK HO384.out BK392.out (by decide)) (fun _ hk => hk.2) (.slice Ao9 t385.length co9)) (fun _ hk => hk.2) (.int .i64 t388)) (fun _ h_ => h_.1))) hb); have n1_ := zb (zh (by (with_reducible repeat (first | apply zf | apply ze | apply zg)); exact (zw (zF (p := ⟨gb392, 1, none⟩) (zF (p := ⟨gb392, 0, none⟩) (zK HO387.out BK392.out (by decide)) (fun _ hk => hk.2) (.slice Ao9 t385.length co9)) (fun _ hk => hk.2) (.int .i64 t388)) (fun _ h_ => h_.1))) hb); have n2_ := zb (zh (by (with_reducible repeat (first | apply zf | apply ze | apply zg)); exact (zw (zF (p := ⟨gb392, 1, none⟩) (zF (p := ⟨gb392, 0, none⟩) (zK HO391.out BK392.out (by decide)) (fun _ hk => hk.2) (.slice Ao9 t385.length co9)) (fun _ hk => hk.2) (.int .i64 t388)) (fun _ h_ => h_.1))) hb); have n3_ := zb (za31 ho0 (zG (by repeat (first | (with_reducible first | exact HB.out | apply zp | apply zi | apply zk | refine zj ?_ GE392.out) | exact HB.out)))); have n4_ := zb (zs (g := gb392) (o := .cells #[.slice Ao9 t385.length co9, .int .i64 t388] 37 (0, 0)) (by (with_reducible repeat (first | refine zm ?_ _ | refine zn ?_ | refine zo ?_ _)); refine blk_put (cs := #[.slice Ao9 t385.length co9, .int .i64 0]) ?_ 1 _ rfl; (with_reducible repeat (first | refine zm ?_ _ | refine zn ?_ | refine zo ?_ _)); refine blk_put (cs := #[.slice none 0 0, .int .i64 0]) ?_ 0 _ rfl; (with_reducible repeat (first | refine zm ?_ _ | refine zn ?_ | refine zo ?_ _)); exact BK392.out) hb); have n5_ := zb (zD (by repeat (first | (with_reducible first | exact HB.out | apply zp | apply zi | apply zk | refine zj ?_ GE392.out) | exact HB.out)) hb); clear HO384; clear HO387; clear HO391; clear BK392; clear HB; have HO384 := n0_; have HO387 := n1_; have HO391 := n2_; have HO395 := n3_; have BK392 := n4_; have HB := n5_; clear n0_ n1_ n2_ n3_ n4_ n5_; (try clear hb); (try clear hb2); (try clear hk); (try clear hi); (try clear ho0)))
  (try simp only [Act.put, za, zc, zd])
  go_cut [48] (fun v48 wc => ∃ (kq : Nat) (x48_5 : Bool), v48 = .bool x48_5 ∧ Aside0 (laws_FnThresholds.j0 kq l0 t393 x48_5 t385 t388 = some r) ∧ Aside0 (kq ≤ k) ∧ Aside0 (Kd.R k46 46 wc w.heap.size (fun _ => True) v394 t393) ∧ Aside0 (Kd.R (Kd.int .i64) 3 wc w.heap.size (fun _ => True) (.slice Ao9 t385.length co9) t385) ∧ Aside0 (wc.heap[gb392]? = some (.cells #[(.slice Ao9 t385.length co9), .int .i64 t388] 37 (0, 0))) ∧ Aside0 (Below w.heap.size w wc))
  case first =>
   have H := HC6.out
   clear HC6
   replace H := zr.mp H
   obtain ⟨t396, A140, H⟩ := H
   replace H : ((impl_CanSign.f k t385 t388 t382).bind fun t397 => (if (t396 != t397) = true then (laws_FnThresholds.j0 k l0 t393 true t385 t388) else ((impl_IsKeys.f k t385 t388).bind fun t398 => (if t398 = true then ((some (([] : List Int) : List Int)).bind fun y399 => (if y399.length + t389.length < 17592186044416 then ((some (y399 ++ t389 : List Int)).bind fun y402 => ((some (([1] : List Int) : List Int)).bind fun y405 => (if y402.length + y405.length < 17592186044416 then ((impl_IsSigned.f k t385 t388 (y402 ++ y405) t393).bind fun t411 => (laws_FnThresholds.j0 k l0 t393 t411 t385 t388)) else (none)))) else (none))) else (laws_FnThresholds.j0 k l0 t393 false t385 t388))))) = some r := H
   have A14 := zb A140
   clear A140
   replace H := zr.mp H
   obtain ⟨t397, A150, H⟩ := H
   replace H : (if (t396 != t397) = true then (laws_FnThresholds.j0 k l0 t393 true t385 t388) else ((impl_IsKeys.f k t385 t388).bind fun t398 => (if t398 = true then ((some (([] : List Int) : List Int)).bind fun y399 => (if y399.length + t389.length < 17592186044416 then ((some (y399 ++ t389 : List Int)).bind fun y402 => ((some (([1] : List Int) : List Int)).bind fun y405 => (if y402.length + y405.length < 17592186044416 then ((impl_IsSigned.f k t385 t388 (y402 ++ y405) t393).bind fun t411 => (laws_FnThresholds.j0 k l0 t393 t411 t385 t388)) else (none)))) else (none))) else (laws_FnThresholds.j0 k l0 t393 false t385 t388)))) = some r := H
   have A15 := zb A150
   clear A150
   by_cases c16 : (t396 != t397) = true
   ·rw [if_pos c16] at H
    have c16b0 : (t396 != t397) = true := c16
    (try (have c16b1 : decide (t396 = t397) = false := by simpa using c16))
    (try (have c16b2 : (t396 == t397) = false := by simpa using c16))
    (try (have c16b3 : ¬ (t396 = t397) := by simpa using c16))
    clear c16
    (first | rw [c16b0] | (simp only [i64_w, i32_w]; rw [c16b0]) | skip)
    have H' := zb H
    clear H
    try go_wp2
    have n0_ := zb (zg HO384.out)
    have n1_ := zb (zg HO387.out)
    have n2_ := zb (zg HO391.out)
    have n3_ := zb (zg HO395.out)
    have n4_ := zb (zn BK392.out)
    have n5_ := zb (zk HB.out)
    clear HO384
    clear HO387
    clear HO391
    clear HO395
    clear BK392
    clear HB
    have HO384 := n0_
    have HO387 := n1_
    have HO391 := n2_
    have HO395 := n3_
    have BK392 := n4_
    have HB := n5_
    clear n0_ n1_ n2_ n3_ n4_ n5_
    obtain ⟨Ao18, co18, eo18⟩ := Kd.R_slice HO395.out
    (first | subst eo18 | (injection eo18 with f1_ f2_ f3_; have f4_ := f1_.symm; have f5_ := f3_.symm; clear f1_ f2_ f3_; subst f4_; subst f5_))
    refine start_ (n := 22) (S := fun w' => w'.cell? ⟨gb392, 0, none⟩ = some (.slice Ao9 t385.length co9) ∧ w'.cell? ⟨gb392, 1, none⟩ = some (.int .i64 t388)) (ds := []) tm0 (by kernel_rfl) rfl rfl ⟨(zq BK392.out 0).trans rfl, (zq BK392.out 1).trans rfl⟩ (fun hHeld => ?_); refine with_tabW laws_FnThresholds.tab5 laws_FnThresholds.bits5 (fun HT_ HW_ => ?_)
    generalize w13.drew = w17 at HO384 HO387 HO391 HO395 BK392 HB hHeld ⊢
    refine pure_ (i := 1) (N := some 28) (v := ?_) (a' := ?_) tm1 rfl rfl (zA HT_.out (by kernel_rfl)) (fun _ _ _ h => h) (Or.inl ⟨by rfl, ?_⟩) ?_ ?_
    rotate_left
    ·intro w'
     go_simp
     with_reducible rfl
    rotate_left
    ·simp only [Act.put, za, zc, zd, i64_w, i32_w]
     rfl
    refine pure_ (i := 2) (N := some 29) (v := ?_) (a' := ?_) tm2 rfl rfl (zA HT_.out (by kernel_rfl)) (fun _ _ _ h => h) (Or.inl ⟨by rfl, ?_⟩) ?_ ?_
    rotate_left
    ·intro w'
     go_simp
     with_reducible rfl
    rotate_left
    ·simp only [Act.put, za, zc, zd, i64_w, i32_w]
     rfl
    refine pure_ (i := 5) (N := some 32) (v := ?_) (a' := ?_) tm3 rfl rfl (zA HT_.out (by kernel_rfl)) (fun _ _ _ h => h) (Or.inl ⟨by rfl, ?_⟩) ?_ ?_
    rotate_left
    ·intro w'
     go_simp
     with_reducible rfl
    rotate_left
    ·simp only [Act.put, za, zc, zd, i64_w, i32_w]
     rfl
    refine take_ (i := 0) (N := some 27) (v := ?_) (a' := ?_) tm4 rfl rfl (take_ofW HT_.out HW_.out (by kernel_rfl)) (fun _ _ _ h => h) (Or.inl ⟨by rfl, ?_⟩) hHeld ?_ ?_
    rotate_left
    ·rintro w' ⟨s0, s1⟩
     go_simp
     with_reducible rfl
    rotate_left
    ·simp only [Act.put, za, zc, zd, i64_w, i32_w]
     rfl
    refine take_ (i := 4) (N := some 31) (v := ?_) (a' := ?_) tm5 rfl rfl (take_ofW HT_.out HW_.out (by kernel_rfl)) (fun _ _ _ h => h) (Or.inl ⟨by rfl, ?_⟩) hHeld ?_ ?_
    rotate_left
    ·rintro w' ⟨s0, s1⟩
     go_simp
     with_reducible rfl
    rotate_left
    ·simp only [Act.put, za, zc, zd, i64_w, i32_w]
     rfl
    refine one_ (i := 3) (N := some 30) tm6 rfl rfl (one_of HT_.out (by kernel_rfl)) (by decide) (fun K hK => ?_)
    refine goes_ Try.func19 (by kernel_rfl) rfl #[.agg #[.slice Ao9 t385.length co9, .int .i64 t388], .slice Ao12 t389.length co12, .slice Ao18 t393.length co18] (by rfl) rfl rfl (by (try simp only [zt, zB, zC]); first | done | rfl | (simp only [zv, zu]; rfl)) ?_
    with_reducible refine (impl_IsSigned.calls k _ _ t385 t388 _ _ t389 _ _ t393 t396 _ ?side1 ?side2 ?side3 ?side4 ?side5 ?side6 A14.out).mono ?_
    (case side1 => repeat (first | exact (zl HO387.out).2.2 | (with_reducible refine zz ?_ _) | (with_reducible refine zx ?_ _) | (with_reducible refine zy ?_)))
    (case side2 => exact (zl HO387.out).2.1)
    (case side3 => repeat (first | exact (zl HO391.out).2.2 | (with_reducible refine zz ?_ _) | (with_reducible refine zx ?_ _) | (with_reducible refine zy ?_)))
    (case side4 => exact (zl HO391.out).2.1)
    (case side5 => repeat (first | exact (zl HO395.out).2.2 | (with_reducible refine zz ?_ _) | (with_reducible refine zx ?_ _) | (with_reducible refine zy ?_)))
    (case side6 => exact (zl HO395.out).2.1)
    rintro e w19 ⟨rfl, hb⟩
    refine ⟨_, rfl, ?_⟩
    have n0_ := zb (zh (by (with_reducible repeat (first | apply zf | apply ze | apply zg)); exact HO384.out) hb)
    have n1_ := zb (zh (by (with_reducible repeat (first | apply zf | apply ze | apply zg)); exact HO387.out) hb)
    have n2_ := zb (zh (by (with_reducible repeat (first | apply zf | apply ze | apply zg)); exact HO391.out) hb)
    have n3_ := zb (zh (by (with_reducible repeat (first | apply zf | apply ze | apply zg)); exact HO395.out) hb)
    have n4_ := zb (zs (g := gb392) (o := .cells #[.slice Ao9 t385.length co9, .int .i64 t388] 37 (0, 0)) (by (with_reducible repeat (first | refine zm ?_ _ | refine zn ?_ | refine zo ?_ _)); exact BK392.out) hb)
    have n5_ := zb (zD (by repeat (first | (with_reducible first | exact HB.out | apply zp | apply zi | apply zk | refine zj ?_ GE392.out) | exact HB.out)) hb)
    clear HO384
    clear HO387
    clear HO391
    clear HO395
    clear BK392
    clear HB
    have HO384 := n0_
    have HO387 := n1_
    have HO391 := n2_
    have HO395 := n3_
    have BK392 := n4_
    have HB := n5_
    clear n0_ n1_ n2_ n3_ n4_ n5_
    (try clear hb)
    (try clear hb2)
    (try clear hk)
    (try clear hi)
    refine hK.out _ _ ⟨(zq BK392.out 0).trans rfl, (zq BK392.out 1).trans rfl⟩ (fun hHeld => ?_)
    clear hK K
    refine norm_ (a' := ?_) ?_ ?_
    rotate_left
    ·show Act.put _ (some 30) _ = _
     simp only [Act.put, za, zc, zd, i64_w, i32_w]
     rfl
    refine one_ (i := 6) (N := some 33) tm7 rfl rfl (one_of HT_.out (by kernel_rfl)) (by decide) (fun K hK => ?_)
    refine goes_ Try.func20 (by kernel_rfl) rfl #[.agg #[.slice Ao9 t385.length co9, .int .i64 t388], .slice Ao11 t382.length co11] (by rfl) rfl rfl (by (try simp only [zt, zB, zC]); first | done | rfl | (simp only [zv, zu]; rfl)) ?_
    with_reducible refine (impl_CanSign.calls k _ _ t385 t388 _ _ t382 t397 _ ?side1 ?side2 ?side3 ?side4 A15.out).mono ?_
    (case side1 => repeat (first | exact (zl HO387.out).2.2 | (with_reducible refine zz ?_ _) | (with_reducible refine zx ?_ _) | (with_reducible refine zy ?_)))
    (case side2 => exact (zl HO387.out).2.1)
    (case side3 => repeat (first | exact (zl HO384.out).2.2 | (with_reducible refine zz ?_ _) | (with_reducible refine zx ?_ _) | (with_reducible refine zy ?_)))
    (case side4 => exact (zl HO384.out).2.1)
    rintro e w20 ⟨rfl, hb⟩
    refine ⟨_, rfl, ?_⟩
    have n0_ := zb (zh (by (with_reducible repeat (first | apply zf | apply ze | apply zg)); exact HO384.out) hb)
    have n1_ := zb (zh (by (with_reducible repeat (first | apply zf | apply ze | apply zg)); exact HO387.out) hb)
    have n2_ := zb (zh (by (with_reducible repeat (first | apply zf | apply ze | apply zg)); exact HO391.out) hb)
    have n3_ := zb (zh (by (with_reducible repeat (first | apply zf | apply ze | apply zg)); exact HO395.out) hb)
    have n4_ := zb (zs (g := gb392) (o := .cells #[.slice Ao9 t385.length co9, .int .i64 t388] 37 (0, 0)) (by (with_reducible repeat (first | refine zm ?_ _ | refine zn ?_ | refine zo ?_ _)); exact BK392.out) hb)
    have n5_ := zb (zD (by repeat (first | (with_reducible first | exact HB.out | apply zp | apply zi | apply zk | refine zj ?_ GE392.out) | exact HB.out)) hb)
    clear HO384
    clear HO387
    clear HO391
    clear HO395
    clear BK392
    clear HB
    have HO384 := n0_
    have HO387 := n1_
    have HO391 := n2_
    have HO395 := n3_
    have BK392 := n4_
    have HB := n5_
    clear n0_ n1_ n2_ n3_ n4_ n5_
    (try clear hb)
    (try clear hb2)
    (try clear hk)
    (try clear hi)
    refine hK.out _ _ ⟨(zq BK392.out 0).trans rfl, (zq BK392.out 1).trans rfl⟩ (fun hHeld => ?_)
    clear hK K
    refine norm_ (a' := ?_) ?_ ?_
    rotate_left
    ·show Act.put _ (some 33) _ = _
     simp only [Act.put, za, zc, zd, i64_w, i32_w]
     rfl
    refine pure_ (i := 7) (N := some 34) (v := ?_) (a' := ?_) tm8 rfl rfl (zA HT_.out (by kernel_rfl)) (fun _ _ _ h => h) (Or.inl ⟨by rfl, ?_⟩) ?_ ?_
    rotate_left
    ·intro w'
     go_simp
     with_reducible rfl
    rotate_left
    ·simp only [Act.put, za, zc, zd, i64_w, i32_w]
     rfl
    refine pure_ (i := 8) (N := some 35) (v := ?_) (a' := ?_) tm9 rfl rfl (zA HT_.out (by kernel_rfl)) (fun _ _ _ h => h) (Or.inl ⟨by rfl, ?_⟩) ?_ ?_
    rotate_left
    ·intro w'
     go_simp
     with_reducible rfl
    rotate_left
    ·simp only [Act.put, za, zc, zd, i64_w, i32_w]
     rfl
    refine pure_ (i := 9) (N := some 36) (v := undef) (a' := ?_) tm10 rfl rfl (zA HT_.out (by kernel_rfl)) (fun _ _ _ h => h) (Or.inr ⟨by rfl, rfl⟩) ?_ ?_
    rotate_left
    ·simp only [Act.put, za, zc, zd, i64_w, i32_w]
     rfl
    refine pure_ (i := 10) (N := some 37) (v := undef) (a' := ?_) tm11 rfl rfl (zA HT_.out (by kernel_rfl)) (fun _ _ _ h => h) (Or.inr ⟨by rfl, rfl⟩) ?_ ?_
    rotate_left
    ·simp only [Act.put, za, zc, zd, i64_w, i32_w]
     rfl
    refine pure_ (i := 11) (N := some 38) (v := undef) (a' := ?_) tm12 rfl rfl (zA HT_.out (by kernel_rfl)) (fun _ _ _ h => h) (Or.inr ⟨by rfl, rfl⟩) ?_ ?_
    rotate_left
    ·simp only [Act.put, za, zc, zd, i64_w, i32_w]
     rfl
    refine pure_ (i := 12) (N := some 39) (v := undef) (a' := ?_) tm13 rfl rfl (zA HT_.out (by kernel_rfl)) (fun _ _ _ h => h) (Or.inr ⟨by rfl, rfl⟩) ?_ ?_
    rotate_left
    ·simp only [Act.put, za, zc, zd, i64_w, i32_w]
     rfl
    refine pure_ (i := 13) (N := some 40) (v := undef) (a' := ?_) tm14 rfl rfl (zA HT_.out (by kernel_rfl)) (fun _ _ _ h => h) (Or.inr ⟨by rfl, rfl⟩) ?_ ?_
    rotate_left
    ·simp only [Act.put, za, zc, zd, i64_w, i32_w]
     rfl
    refine pure_ (i := 14) (N := some 41) (v := undef) (a' := ?_) tm15 rfl rfl (zA HT_.out (by kernel_rfl)) (fun _ _ _ h => h) (Or.inr ⟨by rfl, rfl⟩) ?_ ?_
    rotate_left
    ·simp only [Act.put, za, zc, zd, i64_w, i32_w]
     rfl
    refine pure_ (i := 15) (N := some 42) (v := undef) (a' := ?_) tm16 rfl rfl (zA HT_.out (by kernel_rfl)) (fun _ _ _ h => h) (Or.inr ⟨by rfl, rfl⟩) ?_ ?_
    rotate_left
    ·simp only [Act.put, za, zc, zd, i64_w, i32_w]
     rfl
    refine pure_ (i := 16) (N := some 43) (v := undef) (a' := ?_) tm17 rfl rfl (zA HT_.out (by kernel_rfl)) (fun _ _ _ h => h) (Or.inr ⟨by rfl, rfl⟩) ?_ ?_
    rotate_left
    ·simp only [Act.put, za, zc, zd, i64_w, i32_w]
     rfl
    refine pure_ (i := 17) (N := some 44) (v := undef) (a' := ?_) tm18 rfl rfl (zA HT_.out (by kernel_rfl)) (fun _ _ _ h => h) (Or.inr ⟨by rfl, rfl⟩) ?_ ?_
    rotate_left
    ·simp only [Act.put, za, zc, zd, i64_w, i32_w]
     rfl
    refine pure_ (i := 18) (N := some 45) (v := undef) (a' := ?_) tm19 rfl rfl (zA HT_.out (by kernel_rfl)) (fun _ _ _ h => h) (Or.inr ⟨by rfl, rfl⟩) ?_ ?_
    rotate_left
    ·simp only [Act.put, za, zc, zd, i64_w, i32_w]
     rfl
    refine pure_ (i := 19) (N := some 46) (v := undef) (a' := ?_) tm20 rfl rfl (zA HT_.out (by kernel_rfl)) (fun _ _ _ h => h) (Or.inr ⟨by rfl, rfl⟩) ?_ ?_
    rotate_left
    ·simp only [Act.put, za, zc, zd, i64_w, i32_w]
     rfl
    refine pure_ (i := 20) (N := some 47) (v := undef) (a' := ?_) tm21 rfl rfl (zA HT_.out (by kernel_rfl)) (fun _ _ _ h => h) (Or.inr ⟨by rfl, rfl⟩) ?_ ?_
    rotate_left
    ·simp only [Act.put, za, zc, zd, i64_w, i32_w]
     rfl
    refine pure_ (i := 21) (N := some 48) (v := ?_) (a' := ?_) tm22 rfl rfl (zA HT_.out (by kernel_rfl)) (fun _ _ _ h => h) (Or.inl ⟨by rfl, ?_⟩) ?_ ?_
    rotate_left
    ·intro w'
     go_simp
     with_reducible rfl
    rotate_left
    ·simp only [Act.put, za, zc, zd, i64_w, i32_w]
     rfl
    refine done_ (done_of HT_.out (by kernel_rfl)) ?_
    try go_wp2
    go_meet
    case rel => exact ⟨_, (true), (by first | rfl | (simp; done) | (simp [*]; done)), H', ⟨by first | omega | exact Nat.le_refl _⟩, ⟨by (with_reducible repeat (first | apply zf | apply ze | apply zg)); exact HO395.out⟩, ⟨by (with_reducible repeat (first | apply zf | apply ze | apply zg)); exact zw HO387.out (fun _ hk => trivial)⟩, ⟨by (with_reducible repeat (first | refine zm ?_ _ | refine zn ?_ | refine zo ?_ _)); exact BK392.out⟩, ⟨by repeat (first | (with_reducible first | exact HB.out | apply zp | apply zi | apply zk | refine zj ?_ GE392.out) | exact HB.out)⟩⟩
   ·rw [if_neg c16] at H
    have c16b0 : (t396 != t397) = false := by simpa using c16
    (try (have c16b1 : decide (t396 = t397) = true := by simpa using c16))
    (try (have c16b2 : (t396 == t397) = true := by simpa using c16))
    clear c16
    (first | rw [c16b0] | (simp only [i64_w, i32_w]; rw [c16b0]) | skip)
    replace H := zr.mp H
    obtain ⟨t398, A210, H⟩ := H
    replace H : (if t398 = true then ((some (([] : List Int) : List Int)).bind fun y399 => (if y399.length + t389.length < 17592186044416 then ((some (y399 ++ t389 : List Int)).bind fun y402 => ((some (([1] : List Int) : List Int)).bind fun y405 => (if y402.length + y405.length < 17592186044416 then ((impl_IsSigned.f k t385 t388 (y402 ++ y405) t393).bind fun t411 => (laws_FnThresholds.j0 k l0 t393 t411 t385 t388)) else (none)))) else (none))) else (laws_FnThresholds.j0 k l0 t393 false t385 t388)) = some r := H
    have A21 := zb A210
    clear A210
    by_cases c22 : t398 = true
    ·subst c22
     have H1 : ((some (([] : List Int) : List Int)).bind fun y399 => (if y399.length + t389.length < 17592186044416 then ((some (y399 ++ t389 : List Int)).bind fun y402 => ((some (([1] : List Int) : List Int)).bind fun y405 => (if y402.length + y405.length < 17592186044416 then ((impl_IsSigned.f k t385 t388 (y402 ++ y405) t393).bind fun t411 => (laws_FnThresholds.j0 k l0 t393 t411 t385 t388)) else (none)))) else (none))) = some r := by rw [if_pos rfl] at H; exact H
     clear H
     have H := H1
     clear H1
     obtain ⟨y399, hy399⟩ : ∃ y_ : List Int, y_ = (([] : List Int)) := ⟨_, rfl⟩
     replace H : (if y399.length + t389.length < 17592186044416 then ((some (y399 ++ t389 : List Int)).bind fun y402 => ((some (([1] : List Int) : List Int)).bind fun y405 => (if y402.length + y405.length < 17592186044416 then ((impl_IsSigned.f k t385 t388 (y402 ++ y405) t393).bind fun t411 => (laws_FnThresholds.j0 k l0 t393 t411 t385 t388)) else (none)))) else (none)) = some r := by first | (rw [hy399]; with_reducible exact H) | (have H2_ := (za36 _ _).symm.trans H; rw [hy399]; with_reducible exact H2_) | (have H2_ := (za36 _ _).symm.trans H; with_reducible exact H2_) | with_reducible exact H | (rw [hy399]; exact H) | exact H
     have Ny399 := zb hy399
     clear hy399
     by_cases c23 : y399.length + t389.length < 17592186044416
     ·rw [if_pos c23] at H
      have LMc23 := zb c23
      clear c23
      obtain ⟨y402, hy402⟩ : ∃ y_ : List Int, y_ = (y399 ++ t389) := ⟨_, rfl⟩
      replace H : ((some (([1] : List Int) : List Int)).bind fun y405 => (if y402.length + y405.length < 17592186044416 then ((impl_IsSigned.f k t385 t388 (y402 ++ y405) t393).bind fun t411 => (laws_FnThresholds.j0 k l0 t393 t411 t385 t388)) else (none))) = some r := by first | (rw [hy402]; with_reducible exact H) | (have H2_ := (za36 _ _).symm.trans H; rw [hy402]; with_reducible exact H2_) | (have H2_ := (za36 _ _).symm.trans H; with_reducible exact H2_) | with_reducible exact H | (rw [hy402]; exact H) | exact H
      have Ny402 := zb hy402
      clear hy402
      obtain ⟨y405, hy405⟩ : ∃ y_ : List Int, y_ = (([1] : List Int)) := ⟨_, rfl⟩
      replace H : (if y402.length + y405.length < 17592186044416 then ((impl_IsSigned.f k t385 t388 (y402 ++ y405) t393).bind fun t411 => (laws_FnThresholds.j0 k l0 t393 t411 t385 t388)) else (none)) = some r := by first | (rw [hy405]; with_reducible exact H) | (have H2_ := (za36 _ _).symm.trans H; rw [hy405]; with_reducible exact H2_) | (have H2_ := (za36 _ _).symm.trans H; with_reducible exact H2_) | with_reducible exact H | (rw [hy405]; exact H) | exact H
      have Ny405 := zb hy405
      clear hy405
      by_cases c24 : y402.length + y405.length < 17592186044416
      ·rw [if_pos c24] at H
       have LMc24 := zb c24
       clear c24
       obtain ⟨y408, hy408⟩ : ∃ y_ : List Int, y_ = (y402 ++ y405) := ⟨_, rfl⟩
       replace H : ((impl_IsSigned.f k t385 t388 y408 t393).bind fun t411 => (laws_FnThresholds.j0 k l0 t393 t411 t385 t388)) = some r := by first | (rw [hy408]; with_reducible exact H) | (have H2_ := (za36 _ _).symm.trans H; rw [hy408]; with_reducible exact H2_) | (have H2_ := (za36 _ _).symm.trans H; with_reducible exact H2_) | with_reducible exact H | (rw [hy408]; exact H) | exact H
       have Ny408 := zb hy408
       clear hy408
       replace H := zr.mp H
       obtain ⟨t411, A250, H⟩ := H
       replace H : (laws_FnThresholds.j0 k l0 t393 t411 t385 t388) = some r := H
       have A25 := zb A250
       clear A250
       have H' := zb H
       clear H
       obtain ⟨Ao26, co26, eo26⟩ := Kd.R_slice HO395.out
       subst eo26
       try go_wp2
       have n0_ := zb (zg HO384.out)
       have n1_ := zb (zg HO387.out)
       have n2_ := zb (zg HO391.out)
       have n3_ := zb (zg HO395.out)
       have n4_ := zb (zn BK392.out)
       have n5_ := zb (zk HB.out)
       clear HO384
       clear HO387
       clear HO391
       clear HO395
       clear BK392
       clear HB
       have HO384 := n0_
       have HO387 := n1_
       have HO391 := n2_
       have HO395 := n3_
       have BK392 := n4_
       have HB := n5_
       clear n0_ n1_ n2_ n3_ n4_ n5_
       refine start_ (n := 22) (S := fun w' => w'.cell? ⟨gb392, 0, none⟩ = some (.slice Ao9 t385.length co9) ∧ w'.cell? ⟨gb392, 1, none⟩ = some (.int .i64 t388)) (ds := []) tm0 (by kernel_rfl) rfl rfl ⟨(zq BK392.out 0).trans rfl, (zq BK392.out 1).trans rfl⟩ (fun hHeld => ?_); refine with_tabW laws_FnThresholds.tab5 laws_FnThresholds.bits5 (fun HT_ HW_ => ?_)
       generalize w13.drew = w27 at HO384 HO387 HO391 HO395 BK392 HB hHeld ⊢
       refine pure_ (i := 1) (N := some 28) (v := ?_) (a' := ?_) tm1 rfl rfl (zA HT_.out (by kernel_rfl)) (fun _ _ _ h => h) (Or.inl ⟨by rfl, ?_⟩) ?_ ?_
       rotate_left
       ·intro w'
        go_simp
        with_reducible rfl
       rotate_left
       ·simp only [Act.put, za, zc, zd, i64_w, i32_w]
        rfl
       refine pure_ (i := 2) (N := some 29) (v := ?_) (a' := ?_) tm2 rfl rfl (zA HT_.out (by kernel_rfl)) (fun _ _ _ h => h) (Or.inl ⟨by rfl, ?_⟩) ?_ ?_
       rotate_left
       ·intro w'
        go_simp
        with_reducible rfl
       rotate_left
       ·simp only [Act.put, za, zc, zd, i64_w, i32_w]
        rfl
       refine pure_ (i := 5) (N := some 32) (v := ?_) (a' := ?_) tm3 rfl rfl (zA HT_.out (by kernel_rfl)) (fun _ _ _ h => h) (Or.inl ⟨by rfl, ?_⟩) ?_ ?_
       rotate_left
       ·intro w'
        go_simp
        with_reducible rfl
       rotate_left
       ·simp only [Act.put, za, zc, zd, i64_w, i32_w]
        rfl
       refine take_ (i := 0) (N := some 27) (v := ?_) (a' := ?_) tm4 rfl rfl (take_ofW HT_.out HW_.out (by kernel_rfl)) (fun _ _ _ h => h) (Or.inl ⟨by rfl, ?_⟩) hHeld ?_ ?_
       rotate_left
       ·rintro w' ⟨s0, s1⟩
        go_simp
        with_reducible rfl
       rotate_left
       ·simp only [Act.put, za, zc, zd, i64_w, i32_w]
        rfl
       refine take_ (i := 4) (N := some 31) (v := ?_) (a' := ?_) tm5 rfl rfl (take_ofW HT_.out HW_.out (by kernel_rfl)) (fun _ _ _ h => h) (Or.inl ⟨by rfl, ?_⟩) hHeld ?_ ?_
       rotate_left
       ·rintro w' ⟨s0, s1⟩
        go_simp
        with_reducible rfl
       rotate_left
       ·simp only [Act.put, za, zc, zd, i64_w, i32_w]
        rfl
       refine one_ (i := 3) (N := some 30) tm6 rfl rfl (one_of HT_.out (by kernel_rfl)) (by decide) (fun K hK => ?_)
       refine goes_ Try.func19 (by kernel_rfl) rfl #[.agg #[.slice Ao9 t385.length co9, .int .i64 t388], .slice Ao12 t389.length co12, .slice Ao26 t393.length co26] (by rfl) rfl rfl (by (try simp only [zt, zB, zC]); first | done | rfl | (simp only [zv, zu]; rfl)) ?_
       with_reducible refine (impl_IsSigned.calls k _ _ t385 t388 _ _ t389 _ _ t393 t396 _ ?side1 ?side2 ?side3 ?side4 ?side5 ?side6 A14.out).mono ?_
       (case side1 => repeat (first | exact (zl HO387.out).2.2 | (with_reducible refine zz ?_ _) | (with_reducible refine zx ?_ _) | (with_reducible refine zy ?_)))
       (case side2 => exact (zl HO387.out).2.1)
       (case side3 => repeat (first | exact (zl HO391.out).2.2 | (with_reducible refine zz ?_ _) | (with_reducible refine zx ?_ _) | (with_reducible refine zy ?_)))
       (case side4 => exact (zl HO391.out).2.1)
       (case side5 => repeat (first | exact (zl HO395.out).2.2 | (with_reducible refine zz ?_ _) | (with_reducible refine zx ?_ _) | (with_reducible refine zy ?_)))
       (case side6 => exact (zl HO395.out).2.1)
       rintro e w28 ⟨rfl, hb⟩
       refine ⟨_, rfl, ?_⟩
       have n0_ := zb (zh (by (with_reducible repeat (first | apply zf | apply ze | apply zg)); exact HO384.out) hb)
       have n1_ := zb (zh (by (with_reducible repeat (first | apply zf | apply ze | apply zg)); exact HO387.out) hb)
       have n2_ := zb (zh (by (with_reducible repeat (first | apply zf | apply ze | apply zg)); exact HO391.out) hb)
       have n3_ := zb (zh (by (with_reducible repeat (first | apply zf | apply ze | apply zg)); exact HO395.out) hb)
       have n4_ := zb (zs (g := gb392) (o := .cells #[.slice Ao9 t385.length co9, .int .i64 t388] 37 (0, 0)) (by (with_reducible repeat (first | refine zm ?_ _ | refine zn ?_ | refine zo ?_ _)); exact BK392.out) hb)
       have n5_ := zb (zD (by repeat (first | (with_reducible first | exact HB.out | apply zp | apply zi | apply zk | refine zj ?_ GE392.out) | exact HB.out)) hb)
       clear HO384
       clear HO387
       clear HO391
       clear HO395
       clear BK392
       clear HB
       have HO384 := n0_
       have HO387 := n1_
       have HO391 := n2_
       have HO395 := n3_
       have BK392 := n4_
       have HB := n5_
       clear n0_ n1_ n2_ n3_ n4_ n5_
       (try clear hb)
       (try clear hb2)
       (try clear hk)
       (try clear hi)
       refine hK.out _ _ ⟨(zq BK392.out 0).trans rfl, (zq BK392.out 1).trans rfl⟩ (fun hHeld => ?_)
       clear hK K
       refine norm_ (a' := ?_) ?_ ?_
       rotate_left
       ·show Act.put _ (some 30) _ = _
        simp only [Act.put, za, zc, zd, i64_w, i32_w]
        rfl
       refine one_ (i := 6) (N := some 33) tm7 rfl rfl (one_of HT_.out (by kernel_rfl)) (by decide) (fun K hK => ?_)
       refine goes_ Try.func20 (by kernel_rfl) rfl #[.agg #[.slice Ao9 t385.length co9, .int .i64 t388], .slice Ao11 t382.length co11] (by rfl) rfl rfl (by (try simp only [zt, zB, zC]); first | done | rfl | (simp only [zv, zu]; rfl)) ?_
       with_reducible refine (impl_CanSign.calls k _ _ t385 t388 _ _ t382 t397 _ ?side1 ?side2 ?side3 ?side4 A15.out).mono ?_
       (case side1 => repeat (first | exact (zl HO387.out).2.2 | (with_reducible refine zz ?_ _) | (with_reducible refine zx ?_ _) | (with_reducible refine zy ?_)))
       (case side2 => exact (zl HO387.out).2.1)
       (case side3 => repeat (first | exact (zl HO384.out).2.2 | (with_reducible refine zz ?_ _) | (with_reducible refine zx ?_ _) | (with_reducible refine zy ?_)))
       (case side4 => exact (zl HO384.out).2.1)
       rintro e w29 ⟨rfl, hb⟩
       refine ⟨_, rfl, ?_⟩
       have n0_ := zb (zh (by (with_reducible repeat (first | apply zf | apply ze | apply zg)); exact HO384.out) hb)
       have n1_ := zb (zh (by (with_reducible repeat (first | apply zf | apply ze | apply zg)); exact HO387.out) hb)
       have n2_ := zb (zh (by (with_reducible repeat (first | apply zf | apply ze | apply zg)); exact HO391.out) hb)
       have n3_ := zb (zh (by (with_reducible repeat (first | apply zf | apply ze | apply zg)); exact HO395.out) hb)
       have n4_ := zb (zs (g := gb392) (o := .cells #[.slice Ao9 t385.length co9, .int .i64 t388] 37 (0, 0)) (by (with_reducible repeat (first | refine zm ?_ _ | refine zn ?_ | refine zo ?_ _)); exact BK392.out) hb)
       have n5_ := zb (zD (by repeat (first | (with_reducible first | exact HB.out | apply zp | apply zi | apply zk | refine zj ?_ GE392.out) | exact HB.out)) hb)
       clear HO384
       clear HO387
       clear HO391
       clear HO395
       clear BK392
       clear HB
       have HO384 := n0_
       have HO387 := n1_
       have HO391 := n2_
       have HO395 := n3_
       have BK392 := n4_
       have HB := n5_
       clear n0_ n1_ n2_ n3_ n4_ n5_
       (try clear hb)
       (try clear hb2)
       (try clear hk)
       (try clear hi)
       refine hK.out _ _ ⟨(zq BK392.out 0).trans rfl, (zq BK392.out 1).trans rfl⟩ (fun hHeld => ?_)
       clear hK K
       refine norm_ (a' := ?_) ?_ ?_
       rotate_left
       ·show Act.put _ (some 33) _ = _
        simp only [Act.put, za, zc, zd, i64_w, i32_w]
        rfl
       refine pure_ (i := 7) (N := some 34) (v := ?_) (a' := ?_) tm8 rfl rfl (zA HT_.out (by kernel_rfl)) (fun _ _ _ h => h) (Or.inl ⟨by rfl, ?_⟩) ?_ ?_
       rotate_left
       ·intro w'
        go_simp
        with_reducible rfl
       rotate_left
       ·simp only [Act.put, za, zc, zd, i64_w, i32_w]
        rfl
       refine pure_ (i := 8) (N := some 35) (v := ?_) (a' := ?_) tm9 rfl rfl (zA HT_.out (by kernel_rfl)) (fun _ _ _ h => h) (Or.inl ⟨by rfl, ?_⟩) ?_ ?_
       rotate_left
       ·intro w'
        go_simp
        with_reducible rfl
       rotate_left
       ·simp only [Act.put, za, zc, zd, i64_w, i32_w]
        rfl
       refine take_ (i := 9) (N := some 36) (v := ?_) (a' := ?_) tm10 rfl rfl (take_ofW HT_.out HW_.out (by kernel_rfl)) (fun _ _ _ h => h) (Or.inl ⟨by rfl, ?_⟩) hHeld ?_ ?_
       rotate_left
       ·rintro w' ⟨s0, s1⟩
        go_simp
        with_reducible rfl
       rotate_left
       ·simp only [Act.put, za, zc, zd, i64_w, i32_w]
        rfl
       refine one_ (i := 10) (N := some 37) tm11 rfl rfl (one_of HT_.out (by kernel_rfl)) (by decide) (fun K hK => ?_)
       refine goes_ Try.func21 (by kernel_rfl) rfl #[.agg #[.slice Ao9 t385.length co9, .int .i64 t388]] (by rfl) rfl rfl (by (try simp only [zt, zB, zC]); first | done | rfl | (simp only [zv, zu]; rfl)) ?_
       with_reducible refine (impl_IsKeys.calls k _ _ t385 t388 true _ ?side1 ?side2 A21.out).mono ?_
       (case side1 => repeat (first | exact (zl HO387.out).2.2 | (with_reducible refine zz ?_ _) | (with_reducible refine zx ?_ _) | (with_reducible refine zy ?_)))
       (case side2 => exact (zl HO387.out).2.1)
       rintro e w30 ⟨rfl, hb⟩
       refine ⟨_, rfl, ?_⟩
       have n0_ := zb (zh (by (with_reducible repeat (first | apply zf | apply ze | apply zg)); exact HO384.out) hb)
       have n1_ := zb (zh (by (with_reducible repeat (first | apply zf | apply ze | apply zg)); exact HO387.out) hb)
       have n2_ := zb (zh (by (with_reducible repeat (first | apply zf | apply ze | apply zg)); exact HO391.out) hb)
       have n3_ := zb (zh (by (with_reducible repeat (first | apply zf | apply ze | apply zg)); exact HO395.out) hb)
       have n4_ := zb (zs (g := gb392) (o := .cells #[.slice Ao9 t385.length co9, .int .i64 t388] 37 (0, 0)) (by (with_reducible repeat (first | refine zm ?_ _ | refine zn ?_ | refine zo ?_ _)); exact BK392.out) hb)
       have n5_ := zb (zD (by repeat (first | (with_reducible first | exact HB.out | apply zp | apply zi | apply zk | refine zj ?_ GE392.out) | exact HB.out)) hb)
       clear HO384
       clear HO387
       clear HO391
       clear HO395
       clear BK392
       clear HB
       have HO384 := n0_
       have HO387 := n1_
       have HO391 := n2_
       have HO395 := n3_
       have BK392 := n4_
       have HB := n5_
       clear n0_ n1_ n2_ n3_ n4_ n5_
       (try clear hb)
       (try clear hb2)
       (try clear hk)
       (try clear hi)
       refine hK.out _ _ ⟨(zq BK392.out 0).trans rfl, (zq BK392.out 1).trans rfl⟩ (fun hHeld => ?_)
       clear hK K
       refine norm_ (a' := ?_) ?_ ?_
       rotate_left
       ·show Act.put _ (some 37) _ = _
        simp only [Act.put, za, zc, zd, i64_w, i32_w]
        rfl
       refine pure_ (i := 11) (N := some 38) (v := ?_) (a' := ?_) tm12 rfl rfl (zA HT_.out (by kernel_rfl)) (fun _ _ _ h => h) (Or.inl ⟨by rfl, ?_⟩) ?_ ?_
       rotate_left
       ·intro w'
        go_simp
        with_reducible rfl
       rotate_left
       ·simp only [Act.put, za, zc, zd, i64_w, i32_w]
        rfl
       refine pure_ (i := 14) (N := some 41) (v := ?_) (a' := ?_) tm23 rfl rfl (zA HT_.out (by kernel_rfl)) (fun _ _ _ h => h) (Or.inl ⟨by rfl, ?_⟩) ?_ ?_
       rotate_left
       ·intro w'
        go_simp
        with_reducible rfl
       rotate_left
       ·simp only [Act.put, za, zc, zd, i64_w, i32_w]
        rfl
       refine pure_ (i := 18) (N := some 45) (v := ?_) (a' := ?_) tm24 rfl rfl (zA HT_.out (by kernel_rfl)) (fun _ _ _ h => h) (Or.inl ⟨by rfl, ?_⟩) ?_ ?_
       rotate_left
       ·intro w'
        go_simp
        with_reducible rfl
       rotate_left
       ·simp only [Act.put, za, zc, zd, i64_w, i32_w]
        rfl
       refine take_ (i := 12) (N := some 39) (v := ?_) (a' := ?_) tm25 rfl rfl (take_ofW HT_.out HW_.out (by kernel_rfl)) (fun _ _ _ h => h) (Or.inl ⟨by rfl, ?_⟩) hHeld ?_ ?_
       rotate_left
       ·rintro w' ⟨s0, s1⟩
        go_simp
        with_reducible rfl
       rotate_left
       ·simp only [Act.put, za, zc, zd, i64_w, i32_w]
        rfl
       refine join_ (σ := Value × Value × Value) 4 tm26 (fun s_ => [(40, s_.1), (42, s_.2.1), (43, s_.2.2)]) (fun s_ w' => (w'.cell? ⟨gb392, 0, none⟩ = some (.slice Ao9 t385.length co9) ∧ w'.cell? ⟨gb392, 1, none⟩ = some (.int .i64 t388)) ∧ (Kd.R (Kd.int .i64) 3 w' w.heap.size (fun k_ => some k_ ≠ (.slice Ao9 t385.length co9 : Value).ownBlock ∧ some k_ ≠ (.slice Ao12 t389.length co12 : Value).ownBlock ∧ some k_ ≠ (s_.2.1 : Value).ownBlock ∧ some k_ ≠ (s_.2.2 : Value).ownBlock) (.slice Ao11 t382.length co11) t382) ∧ (Kd.R (Kd.int .i64) 3 w' w.heap.size (fun k_ => some k_ ≠ (.slice Ao11 t382.length co11 : Value).ownBlock ∧ some k_ ≠ (.slice Ao12 t389.length co12 : Value).ownBlock ∧ some k_ ≠ (s_.2.1 : Value).ownBlock ∧ some k_ ≠ (s_.2.2 : Value).ownBlock) (.slice Ao9 t385.length co9) t385) ∧ (Kd.R (Kd.int .i64) 3 w' w.heap.size (fun k_ => some k_ ≠ (.slice Ao11 t382.length co11 : Value).ownBlock ∧ some k_ ≠ (.slice Ao9 t385.length co9 : Value).ownBlock ∧ some k_ ≠ (s_.2.1 : Value).ownBlock ∧ some k_ ≠ (s_.2.2 : Value).ownBlock) (.slice Ao12 t389.length co12) t389) ∧ (Kd.R k46 46 w' w.heap.size (fun _ => True) (.slice Ao26 t393.length co26) t393) ∧ (Kd.R (Kd.int .i64) 3 w' w.heap.size (fun k_ => some k_ ≠ (.slice Ao11 t382.length co11 : Value).ownBlock ∧ some k_ ≠ (.slice Ao9 t385.length co9 : Value).ownBlock ∧ some k_ ≠ (.slice Ao12 t389.length co12 : Value).ownBlock ∧ some k_ ≠ (s_.2.2 : Value).ownBlock) s_.2.1 y402) ∧ (Kd.R (Kd.int .i64) 3 w' w.heap.size (fun k_ => some k_ ≠ (.slice Ao11 t382.length co11 : Value).ownBlock ∧ some k_ ≠ (.slice Ao9 t385.length co9 : Value).ownBlock ∧ some k_ ≠ (.slice Ao12 t389.length co12 : Value).ownBlock ∧ some k_ ≠ (s_.2.1 : Value).ownBlock) s_.2.2 y405) ∧ (w'.heap[gb392]? = some (.cells #[.slice Ao9 t385.length co9, .int .i64 t388] 37 (0, 0))) ∧ (Below w.heap.size w w')) ?_ ?_
       rotate_left
       ·intro hCont
        refine two_ (i := 13) (j := 16) (Ni := some 40) (Nj := some 43) tm27 tm28 rfl rfl rfl rfl (two_of HT_.out (by kernel_rfl)) (by decide) (by decide) (fun K hK => ?_) (fun K hK => ?_)
        ·skip
         refine Kd.R_lit_step (Kd.int .i64) _ 3 ?hg (N := 40) ?hd (xs := ([] : List Int)) (inner := []) (ok := fun _ => True) (okp := fun _ => True) ?hr ?hp (fun _ hk => hk) trivial (Below.refl _ _) (Nat.le_refl _) (by simp) ?_; (case hd => rfl); (case hg => rfl); (case hr => first | (go_simp; done) | (go_simp; rfl)); (case hp => exact (Reps.none _ _))
         intro v400 w31 ho32 hb hg_ hnew_
         clear hg_ hnew_
         (first | rw [← Ny399.out] at ho32 | (simp only [Int.reduceToNat] at ho32; rw [← Ny399.out] at ho32))
         have n0_ := zb (zE (by (with_reducible repeat (first | apply zf | apply ze | apply zg)); exact HO384.out) (zI ho32) hb)
         have n1_ := zb (zE (by (with_reducible repeat (first | apply zf | apply ze | apply zg)); exact HO387.out) (zI ho32) hb)
         have n2_ := zb (zE (by (with_reducible repeat (first | apply zf | apply ze | apply zg)); exact HO391.out) (zI ho32) hb)
         have n3_ := zb (zh (by (with_reducible repeat (first | apply zf | apply ze | apply zg)); exact HO395.out) hb)
         have n4_ := zb (za31 (zH (zH (zH ho32 (zJ (by (with_reducible repeat (first | apply zf | apply ze | apply zg)); exact HO384.out))) (zJ (by (with_reducible repeat (first | apply zf | apply ze | apply zg)); exact HO387.out))) (zJ (by (with_reducible repeat (first | apply zf | apply ze | apply zg)); exact HO391.out))) (zG (by repeat (first | (with_reducible first | exact HB.out | apply zp | apply zi | apply zk | refine zj ?_ GE392.out) | exact HB.out))))
         have n5_ := zb (zs (g := gb392) (o := .cells #[.slice Ao9 t385.length co9, .int .i64 t388] 37 (0, 0)) (by (with_reducible repeat (first | refine zm ?_ _ | refine zn ?_ | refine zo ?_ _)); exact BK392.out) hb)
         have n6_ := zb (zD (by repeat (first | (with_reducible first | exact HB.out | apply zp | apply zi | apply zk | refine zj ?_ GE392.out) | exact HB.out)) hb)
         clear HO384
         clear HO387
         clear HO391
         clear HO395
         clear BK392
         clear HB
         have HO384 := n0_
         have HO387 := n1_
         have HO391 := n2_
         have HO395 := n3_
         have HO401 := n4_
         have BK392 := n5_
         have HB := n6_
         clear n0_ n1_ n2_ n3_ n4_ n5_ n6_
         clear hb ho32
         refine hK.out _ _ ⟨(zq BK392.out 0).trans rfl, (zq BK392.out 1).trans rfl⟩ (fun hHeld => ?_)
         clear hK K
         refine norm_ (a' := ?_) ?_ ?_
         rotate_left
         ·show Act.put _ (some 40) _ = _
          simp only [Act.put, za, zc, zd, i64_w, i32_w]
          rfl
         refine two_ (i := 15) (j := 16) (Ni := some 42) (Nj := some 43) tm29 tm30 rfl rfl rfl rfl (two_of HT_.out (by kernel_rfl)) (by decide) (by decide) (fun K hK => ?_) (fun K hK => ?_)
         ·skip
          refine Kd.R_append_rows_step (Kd.int .i64) (w0 := w) w.heap.size (by rfl) (.tmp 40) (.tmp 41) 22 3 (.int .i64 0) 8 rfl Try.underlying22 info3 rfl (by decide) (by omega) v400 y399 t389 _ _ _ (fun k_ => some k_ ≠ (.slice Ao11 t382.length co11 : Value).ownBlock ∧ some k_ ≠ (.slice Ao9 t385.length co9 : Value).ownBlock ∧ some k_ ≠ (.slice Ao12 t389.length co12 : Value).ownBlock) (fun _ => False) rfl rfl ?aO ?aR (fun _ _ h => h) (fun _ h => h.elim) ?aF ?aB ?aS ?aL ?_
          (case aR => repeat (first | exact (zl HO391.out).2.2 | (with_reducible refine zz ?_ _) | (with_reducible refine zx ?_ _) | (with_reducible refine zy ?_)))
          (case aB => exact (by repeat (first | (with_reducible first | exact HB.out | apply zp | apply zi | apply zk | refine zj ?_ GE392.out) | exact HB.out)))
          (case aF => exact (fun k_ hk => ⟨Kd.fresh' (zJ (by (with_reducible repeat (first | apply zf | apply ze | apply zg)); exact HO384.out)) k_ hk, Kd.fresh' (zJ (by (with_reducible repeat (first | apply zf | apply ze | apply zg)); exact HO387.out)) k_ hk, Kd.fresh' (zJ (by (with_reducible repeat (first | apply zf | apply ze | apply zg)); exact HO391.out)) k_ hk⟩))
          (case aO => exact (by (with_reducible repeat (first | apply zf | apply ze | apply zg)); exact zw HO401.out (fun _ hk => ⟨hk.1.1.2, ⟨hk.1.2, hk.2⟩⟩)))
          (case aS => exact (zG (by repeat (first | (with_reducible first | exact HB.out | apply zp | apply zi | apply zk | refine zj ?_ GE392.out) | exact HB.out))))
          (case aL => have := LMc23.out; omega)
          intro v403 w33 ho hb hg hat
          rw [← Ny402.out] at ho
          have n0_ := zb (Kd.R_after (ok := (fun k_ => some k_ ≠ (.slice Ao9 t385.length co9 : Value).ownBlock ∧ some k_ ≠ (.slice Ao12 t389.length co12 : Value).ownBlock)) (by (with_reducible repeat (first | apply zf | apply ze | apply zg)); exact HO384.out) hg hat)
          have n1_ := zb (Kd.R_after (ok := (fun k_ => some k_ ≠ (.slice Ao11 t382.length co11 : Value).ownBlock ∧ some k_ ≠ (.slice Ao12 t389.length co12 : Value).ownBlock)) (by (with_reducible repeat (first | apply zf | apply ze | apply zg)); exact HO387.out) hg hat)
          have n2_ := zb (Kd.R_after (ok := (fun k_ => some k_ ≠ (.slice Ao11 t382.length co11 : Value).ownBlock ∧ some k_ ≠ (.slice Ao9 t385.length co9 : Value).ownBlock)) (by (with_reducible repeat (first | apply zf | apply ze | apply zg)); exact HO391.out) hg hat)
          have n3_ := zb (blk_grown (g := gb392) (o := .cells #[.slice Ao9 t385.length co9, .int .i64 t388] 37 (0, 0)) (by (with_reducible repeat (first | refine zm ?_ _ | refine zn ?_ | refine zo ?_ _)); exact BK392.out) hg (Kd.R_ne HO401.out BK392.out (by decide)))
          have n4_ := zb (Kd.R_over' (by (with_reducible repeat (first | apply zf | apply ze | apply zg)); exact HO395.out) (Kd.R_typed (by (with_reducible repeat (first | apply zf | apply ze | apply zg)); exact HO401.out)) (by decide) hg)
          have n5_ := zb (hb)
          have n6_ := zb (ho)
          clear HO384
          clear HO387
          clear HO391
          clear BK392
          clear HO395
          clear HB
          clear HO401
          have HO384 := n0_
          have HO387 := n1_
          have HO391 := n2_
          have BK392 := n3_
          have HO395 := n4_
          have HB := n5_
          have HO404 := n6_
          clear n0_ n1_ n2_ n3_ n4_ n5_ n6_
          clear ho hb hg hat
          refine hK.out _ _ ⟨(zq BK392.out 0).trans rfl, (zq BK392.out 1).trans rfl⟩ (fun hHeld => ?_)
          clear hK K
          refine norm_ (a' := ?_) ?_ ?_
          rotate_left
          ·show Act.put _ (some 42) _ = _
           simp only [Act.put, za, zc, zd, i64_w, i32_w]
           rfl
          refine one_ (i := 16) (N := some 43) tm26 rfl rfl (one_of HT_.out (by kernel_rfl)) (by decide) (fun K hK => ?_)
          refine Kd.R_lit_step (Kd.int .i64) _ 3 ?hg (N := 43) ?hd (xs := ([1] : List Int)) (inner := [.int .i64 1]) (ok := fun _ => True) (okp := fun _ => True) ?hr ?hp (fun _ hk => hk) trivial (Below.refl _ _) (Nat.le_refl _) (by simp) ?_; (case hd => rfl); (case hg => rfl); (case hr => first | (go_simp; done) | (go_simp; rfl)); (case hp => exact (Reps.one (show Kd.M (Kd.int .i64) _ _ _ 1 [.int .i64 1] from rfl) (Reps.none _ _)))
          intro v406 w34 ho35 hb hg_ hnew_
          clear hg_ hnew_
          (first | rw [← Ny405.out] at ho35 | (simp only [Int.reduceToNat] at ho35; rw [← Ny405.out] at ho35))
          have n0_ := zb (zE (by (with_reducible repeat (first | apply zf | apply ze | apply zg)); exact HO384.out) (zI ho35) hb)
          have n1_ := zb (zE (by (with_reducible repeat (first | apply zf | apply ze | apply zg)); exact HO387.out) (zI ho35) hb)
          have n2_ := zb (zE (by (with_reducible repeat (first | apply zf | apply ze | apply zg)); exact HO391.out) (zI ho35) hb)
          have n3_ := zb (zh (by (with_reducible repeat (first | apply zf | apply ze | apply zg)); exact HO395.out) hb)
          have n4_ := zb (zE (by (with_reducible repeat (first | apply zf | apply ze | apply zg)); exact HO404.out) (zI ho35) hb)
          have n5_ := zb (za31 (zH (zH (zH (zH ho35 (zJ (by (with_reducible repeat (first | apply zf | apply ze | apply zg)); exact HO384.out))) (zJ (by (with_reducible repeat (first | apply zf | apply ze | apply zg)); exact HO387.out))) (zJ (by (with_reducible repeat (first | apply zf | apply ze | apply zg)); exact HO391.out))) (zJ (by (with_reducible repeat (first | apply zf | apply ze | apply zg)); exact HO404.out))) (zG (by repeat (first | (with_reducible first | exact HB.out | apply zp | apply zi | apply zk | refine zj ?_ GE392.out) | exact HB.out))))
          have n6_ := zb (zs (g := gb392) (o := .cells #[.slice Ao9 t385.length co9, .int .i64 t388] 37 (0, 0)) (by (with_reducible repeat (first | refine zm ?_ _ | refine zn ?_ | refine zo ?_ _)); exact BK392.out) hb)
          have n7_ := zb (zD (by repeat (first | (with_reducible first | exact HB.out | apply zp | apply zi | apply zk | refine zj ?_ GE392.out) | exact HB.out)) hb)
          clear HO384
          clear HO387
          clear HO391
          clear HO395
          clear HO404
          clear BK392
          clear HB
          have HO384 := n0_
          have HO387 := n1_
          have HO391 := n2_
          have HO395 := n3_
          have HO404 := n4_
          have HO407 := n5_
          have BK392 := n6_
          have HB := n7_
          clear n0_ n1_ n2_ n3_ n4_ n5_ n6_ n7_
          clear hb ho35
          refine hK.out _ _ ⟨(zq BK392.out 0).trans rfl, (zq BK392.out 1).trans rfl⟩ (fun hHeld => ?_)
          clear hK K
          refine norm_ (a' := ?_) ?_ ?_
          rotate_left
          ·show Act.put _ (some 43) _ = _
           simp only [Act.put, za, zc, zd, i64_w, i32_w]
           rfl
          exact norm_ (by simp only [putAll, Act.put, za, zc, zd]) (hCont (v400, v403, v406) _ ⟨hHeld, (by (with_reducible repeat (first | apply zf | apply ze | apply zg)); exact zw HO384.out (fun _ hk => ⟨hk.1.1.1, ⟨hk.1.1.2, ⟨hk.1.2, hk.2⟩⟩⟩)), (by (with_reducible repeat (first | apply zf | apply ze | apply zg)); exact zw HO387.out (fun _ hk => ⟨hk.1.1.1, ⟨hk.1.1.2, ⟨hk.1.2, hk.2⟩⟩⟩)), (by (with_reducible repeat (first | apply zf | apply ze | apply zg)); exact zw HO391.out (fun _ hk => ⟨hk.1.1.1, ⟨hk.1.1.2, ⟨hk.1.2, hk.2⟩⟩⟩)), (by (with_reducible repeat (first | apply zf | apply ze | apply zg)); exact HO395.out), (by (with_reducible repeat (first | apply zf | apply ze | apply zg)); exact zw HO404.out (fun _ hk => ⟨hk.1.1, ⟨hk.1.2.1, ⟨hk.1.2.2, hk.2⟩⟩⟩)), (by (with_reducible repeat (first | apply zf | apply ze | apply zg)); exact zw HO407.out (fun _ hk => ⟨hk.1.1.1.2, ⟨hk.1.1.2, ⟨hk.1.2, hk.2⟩⟩⟩)), (by (with_reducible repeat (first | refine zm ?_ _ | refine zn ?_ | refine zo ?_ _)); exact BK392.out), (by repeat (first | (with_reducible first | exact HB.out | apply zp | apply zi | apply zk | refine zj ?_ GE392.out) | exact HB.out))⟩)
         ·skip
          refine Kd.R_lit_step (Kd.int .i64) _ 3 ?hg (N := 43) ?hd (xs := ([1] : List Int)) (inner := [.int .i64 1]) (ok := fun _ => True) (okp := fun _ => True) ?hr ?hp (fun _ hk => hk) trivial (Below.refl _ _) (Nat.le_refl _) (by simp) ?_; (case hd => rfl); (case hg => rfl); (case hr => first | (go_simp; done) | (go_simp; rfl)); (case hp => exact (Reps.one (show Kd.M (Kd.int .i64) _ _ _ 1 [.int .i64 1] from rfl) (Reps.none _ _)))
          intro v406 w33 ho34 hb hg_ hnew_
          clear hg_ hnew_
          (first | rw [← Ny405.out] at ho34 | (simp only [Int.reduceToNat] at ho34; rw [← Ny405.out] at ho34))
          have n0_ := zb (zE (by (with_reducible repeat (first | apply zf | apply ze | apply zg)); exact HO384.out) (zI ho34) hb)
          have n1_ := zb (zE (by (with_reducible repeat (first | apply zf | apply ze | apply zg)); exact HO387.out) (zI ho34) hb)
          have n2_ := zb (zE (by (with_reducible repeat (first | apply zf | apply ze | apply zg)); exact HO391.out) (zI ho34) hb)
          have n3_ := zb (zh (by (with_reducible repeat (first | apply zf | apply ze | apply zg)); exact HO395.out) hb)
          have n4_ := zb (zE (by (with_reducible repeat (first | apply zf | apply ze | apply zg)); exact HO401.out) (zI ho34) hb)
          have n5_ := zb (za31 (zH (zH (zH (zH ho34 (zJ (by (with_reducible repeat (first | apply zf | apply ze | apply zg)); exact HO384.out))) (zJ (by (with_reducible repeat (first | apply zf | apply ze | apply zg)); exact HO387.out))) (zJ (by (with_reducible repeat (first | apply zf | apply ze | apply zg)); exact HO391.out))) (zJ (by (with_reducible repeat (first | apply zf | apply ze | apply zg)); exact HO401.out))) (zG (by repeat (first | (with_reducible first | exact HB.out | apply zp | apply zi | apply zk | refine zj ?_ GE392.out) | exact HB.out))))
          have n6_ := zb (zs (g := gb392) (o := .cells #[.slice Ao9 t385.length co9, .int .i64 t388] 37 (0, 0)) (by (with_reducible repeat (first | refine zm ?_ _ | refine zn ?_ | refine zo ?_ _)); exact BK392.out) hb)
          have n7_ := zb (zD (by repeat (first | (with_reducible first | exact HB.out | apply zp | apply zi | apply zk | refine zj ?_ GE392.out) | exact HB.out)) hb)
          clear HO384
          clear HO387
          clear HO391
          clear HO395
          clear HO401
          clear BK392
          clear HB
          have HO384 := n0_
          have HO387 := n1_
          have HO391 := n2_
          have HO395 := n3_
          have HO401 := n4_
          have HO407 := n5_
          have BK392 := n6_
          have HB := n7_
          clear n0_ n1_ n2_ n3_ n4_ n5_ n6_ n7_
          clear hb ho34
          refine hK.out _ _ ⟨(zq BK392.out 0).trans rfl, (zq BK392.out 1).trans rfl⟩ (fun hHeld => ?_)
          clear hK K
          refine norm_ (a' := ?_) ?_ ?_
          rotate_left
          ·show Act.put _ (some 43) _ = _
           simp only [Act.put, za, zc, zd, i64_w, i32_w]
           rfl
          refine one_ (i := 15) (N := some 42) tm26 rfl rfl (one_of HT_.out (by kernel_rfl)) (by decide) (fun K hK => ?_)
          refine Kd.R_append_rows_step (Kd.int .i64) (w0 := w) w.heap.size (by rfl) (.tmp 40) (.tmp 41) 22 3 (.int .i64 0) 8 rfl Try.underlying22 info3 rfl (by decide) (by omega) v400 y399 t389 _ _ _ (fun k_ => some k_ ≠ (.slice Ao11 t382.length co11 : Value).ownBlock ∧ some k_ ≠ (.slice Ao9 t385.length co9 : Value).ownBlock ∧ some k_ ≠ (.slice Ao12 t389.length co12 : Value).ownBlock ∧ some k_ ≠ (v406 : Value).ownBlock) (fun _ => False) rfl rfl ?aO ?aR (fun _ _ h => h) (fun _ h => h.elim) ?aF ?aB ?aS ?aL ?_
          (case aR => repeat (first | exact (zl HO391.out).2.2 | (with_reducible refine zz ?_ _) | (with_reducible refine zx ?_ _) | (with_reducible refine zy ?_)))
          (case aB => exact (by repeat (first | (with_reducible first | exact HB.out | apply zp | apply zi | apply zk | refine zj ?_ GE392.out) | exact HB.out)))
          (case aF => exact (fun k_ hk => ⟨Kd.fresh' (zJ (by (with_reducible repeat (first | apply zf | apply ze | apply zg)); exact HO384.out)) k_ hk, Kd.fresh' (zJ (by (with_reducible repeat (first | apply zf | apply ze | apply zg)); exact HO387.out)) k_ hk, Kd.fresh' (zJ (by (with_reducible repeat (first | apply zf | apply ze | apply zg)); exact HO391.out)) k_ hk, Kd.fresh' (zJ (by (with_reducible repeat (first | apply zf | apply ze | apply zg)); exact HO407.out)) k_ hk⟩))
          (case aO => exact (by (with_reducible repeat (first | apply zf | apply ze | apply zg)); exact zw HO401.out (fun _ hk => ⟨hk.1.1.1.2, ⟨hk.1.1.2, ⟨hk.1.2, hk.2⟩⟩⟩)))
          (case aS => exact (zG (by repeat (first | (with_reducible first | exact HB.out | apply zp | apply zi | apply zk | refine zj ?_ GE392.out) | exact HB.out))))
          (case aL => have := LMc23.out; omega)
          intro v403 w35 ho hb hg hat
          rw [← Ny402.out] at ho
          have n0_ := zb (Kd.R_after (ok := (fun k_ => some k_ ≠ (.slice Ao9 t385.length co9 : Value).ownBlock ∧ some k_ ≠ (.slice Ao12 t389.length co12 : Value).ownBlock ∧ some k_ ≠ (v406 : Value).ownBlock)) (by (with_reducible repeat (first | apply zf | apply ze | apply zg)); exact zw HO384.out (fun _ hk => ⟨⟨hk.1.1.1, ⟨hk.1.1.2, hk.2⟩⟩, hk.1.2⟩)) hg hat)
          have n1_ := zb (Kd.R_after (ok := (fun k_ => some k_ ≠ (.slice Ao11 t382.length co11 : Value).ownBlock ∧ some k_ ≠ (.slice Ao12 t389.length co12 : Value).ownBlock ∧ some k_ ≠ (v406 : Value).ownBlock)) (by (with_reducible repeat (first | apply zf | apply ze | apply zg)); exact zw HO387.out (fun _ hk => ⟨⟨hk.1.1.1, ⟨hk.1.1.2, hk.2⟩⟩, hk.1.2⟩)) hg hat)
          have n2_ := zb (Kd.R_after (ok := (fun k_ => some k_ ≠ (.slice Ao11 t382.length co11 : Value).ownBlock ∧ some k_ ≠ (.slice Ao9 t385.length co9 : Value).ownBlock ∧ some k_ ≠ (v406 : Value).ownBlock)) (by (with_reducible repeat (first | apply zf | apply ze | apply zg)); exact zw HO391.out (fun _ hk => ⟨⟨hk.1.1.1, ⟨hk.1.1.2, hk.2⟩⟩, hk.1.2⟩)) hg hat)
          have n3_ := zb (blk_grown (g := gb392) (o := .cells #[.slice Ao9 t385.length co9, .int .i64 t388] 37 (0, 0)) (by (with_reducible repeat (first | refine zm ?_ _ | refine zn ?_ | refine zo ?_ _)); exact BK392.out) hg (Kd.R_ne HO401.out BK392.out (by decide)))
          have n4_ := zb (Kd.R_over' (by (with_reducible repeat (first | apply zf | apply ze | apply zg)); exact HO395.out) (Kd.R_typed (by (with_reducible repeat (first | apply zf | apply ze | apply zg)); exact HO401.out)) (by decide) hg)
          have n5_ := zb (Kd.R_after (ok := (fun k_ => some k_ ≠ (.slice Ao11 t382.length co11 : Value).ownBlock ∧ some k_ ≠ (.slice Ao9 t385.length co9 : Value).ownBlock ∧ some k_ ≠ (.slice Ao12 t389.length co12 : Value).ownBlock)) (by (with_reducible repeat (first | apply zf | apply ze | apply zg)); exact zw HO407.out (fun _ hk => ⟨⟨hk.1.1.1.2, ⟨hk.1.1.2, hk.1.2⟩⟩, hk.2⟩)) hg hat)
          have n6_ := zb (hb)
          have n7_ := zb (ho)
          clear HO384
          clear HO387
          clear HO391
          clear BK392
          clear HO395
          clear HO407
          clear HB
          clear HO401
          have HO384 := n0_
          have HO387 := n1_
          have HO391 := n2_
          have BK392 := n3_
          have HO395 := n4_
          have HO407 := n5_
          have HB := n6_
          have HO404 := n7_
          clear n0_ n1_ n2_ n3_ n4_ n5_ n6_ n7_
          clear ho hb hg hat
          refine hK.out _ _ ⟨(zq BK392.out 0).trans rfl, (zq BK392.out 1).trans rfl⟩ (fun hHeld => ?_)
          clear hK K
          refine norm_ (a' := ?_) ?_ ?_
          rotate_left
          ·show Act.put _ (some 42) _ = _
           simp only [Act.put, za, zc, zd, i64_w, i32_w]
           rfl
          exact norm_ (by simp only [putAll, Act.put, za, zc, zd]) (hCont (v400, v403, v406) _ ⟨hHeld, (by (with_reducible repeat (first | apply zf | apply ze | apply zg)); exact zw HO384.out (fun _ hk => ⟨hk.1.1, ⟨hk.1.2.1, ⟨hk.2, hk.1.2.2⟩⟩⟩)), (by (with_reducible repeat (first | apply zf | apply ze | apply zg)); exact zw HO387.out (fun _ hk => ⟨hk.1.1, ⟨hk.1.2.1, ⟨hk.2, hk.1.2.2⟩⟩⟩)), (by (with_reducible repeat (first | apply zf | apply ze | apply zg)); exact zw HO391.out (fun _ hk => ⟨hk.1.1, ⟨hk.1.2.1, ⟨hk.2, hk.1.2.2⟩⟩⟩)), (by (with_reducible repeat (first | apply zf | apply ze | apply zg)); exact HO395.out), (by (with_reducible repeat (first | apply zf | apply ze | apply zg)); exact HO404.out), (by (with_reducible repeat (first | apply zf | apply ze | apply zg)); exact zw HO407.out (fun _ hk => ⟨hk.1.1, ⟨hk.1.2.1, ⟨hk.1.2.2, hk.2⟩⟩⟩)), (by (with_reducible repeat (first | refine zm ?_ _ | refine zn ?_ | refine zo ?_ _)); exact BK392.out), (by repeat (first | (with_reducible first | exact HB.out | apply zp | apply zi | apply zk | refine zj ?_ GE392.out) | exact HB.out))⟩)
        ·skip
         refine Kd.R_lit_step (Kd.int .i64) _ 3 ?hg (N := 43) ?hd (xs := ([1] : List Int)) (inner := [.int .i64 1]) (ok := fun _ => True) (okp := fun _ => True) ?hr ?hp (fun _ hk => hk) trivial (Below.refl _ _) (Nat.le_refl _) (by simp) ?_; (case hd => rfl); (case hg => rfl); (case hr => first | (go_simp; done) | (go_simp; rfl)); (case hp => exact (Reps.one (show Kd.M (Kd.int .i64) _ _ _ 1 [.int .i64 1] from rfl) (Reps.none _ _)))
         intro v406 w31 ho32 hb hg_ hnew_
         clear hg_ hnew_
         (first | rw [← Ny405.out] at ho32 | (simp only [Int.reduceToNat] at ho32; rw [← Ny405.out] at ho32))
         have n0_ := zb (zE (by (with_reducible repeat (first | apply zf | apply ze | apply zg)); exact HO384.out) (zI ho32) hb)
         have n1_ := zb (zE (by (with_reducible repeat (first | apply zf | apply ze | apply zg)); exact HO387.out) (zI ho32) hb)
         have n2_ := zb (zE (by (with_reducible repeat (first | apply zf | apply ze | apply zg)); exact HO391.out) (zI ho32) hb)
         have n3_ := zb (zh (by (with_reducible repeat (first | apply zf | apply ze | apply zg)); exact HO395.out) hb)
         have n4_ := zb (za31 (zH (zH (zH ho32 (zJ (by (with_reducible repeat (first | apply zf | apply ze | apply zg)); exact HO384.out))) (zJ (by (with_reducible repeat (first | apply zf | apply ze | apply zg)); exact HO387.out))) (zJ (by (with_reducible repeat (first | apply zf | apply ze | apply zg)); exact HO391.out))) (zG (by repeat (first | (with_reducible first | exact HB.out | apply zp | apply zi | apply zk | refine zj ?_ GE392.out) | exact HB.out))))
         have n5_ := zb (zs (g := gb392) (o := .cells #[.slice Ao9 t385.length co9, .int .i64 t388] 37 (0, 0)) (by (with_reducible repeat (first | refine zm ?_ _ | refine zn ?_ | refine zo ?_ _)); exact BK392.out) hb)
         have n6_ := zb (zD (by repeat (first | (with_reducible first | exact HB.out | apply zp | apply zi | apply zk | refine zj ?_ GE392.out) | exact HB.out)) hb)
         clear HO384
         clear HO387
         clear HO391
         clear HO395
         clear BK392
         clear HB
         have HO384 := n0_
         have HO387 := n1_
         have HO391 := n2_
         have HO395 := n3_
         have HO407 := n4_
         have BK392 := n5_
         have HB := n6_
         clear n0_ n1_ n2_ n3_ n4_ n5_ n6_
         clear hb ho32
         refine hK.out _ _ ⟨(zq BK392.out 0).trans rfl, (zq BK392.out 1).trans rfl⟩ (fun hHeld => ?_)
         clear hK K
         refine norm_ (a' := ?_) ?_ ?_
         rotate_left
         ·show Act.put _ (some 43) _ = _
          simp only [Act.put, za, zc, zd, i64_w, i32_w]
          rfl
         refine one_ (i := 13) (N := some 40) tm30 rfl rfl (one_of HT_.out (by kernel_rfl)) (by decide) (fun K hK => ?_)
         refine Kd.R_lit_step (Kd.int .i64) _ 3 ?hg (N := 40) ?hd (xs := ([] : List Int)) (inner := []) (ok := fun _ => True) (okp := fun _ => True) ?hr ?hp (fun _ hk => hk) trivial (Below.refl _ _) (Nat.le_refl _) (by simp) ?_; (case hd => rfl); (case hg => rfl); (case hr => first | (go_simp; done) | (go_simp; rfl)); (case hp => exact (Reps.none _ _))
         intro v400 w33 ho34 hb hg_ hnew_
         clear hg_ hnew_
         (first | rw [← Ny399.out] at ho34 | (simp only [Int.reduceToNat] at ho34; rw [← Ny399.out] at ho34))
         have n0_ := zb (zE (by (with_reducible repeat (first | apply zf | apply ze | apply zg)); exact HO384.out) (zI ho34) hb)
         have n1_ := zb (zE (by (with_reducible repeat (first | apply zf | apply ze | apply zg)); exact HO387.out) (zI ho34) hb)
         have n2_ := zb (zE (by (with_reducible repeat (first | apply zf | apply ze | apply zg)); exact HO391.out) (zI ho34) hb)
         have n3_ := zb (zh (by (with_reducible repeat (first | apply zf | apply ze | apply zg)); exact HO395.out) hb)
         have n4_ := zb (zE (by (with_reducible repeat (first | apply zf | apply ze | apply zg)); exact HO407.out) (zI ho34) hb)
         have n5_ := zb (za31 (zH (zH (zH (zH ho34 (zJ (by (with_reducible repeat (first | apply zf | apply ze | apply zg)); exact HO384.out))) (zJ (by (with_reducible repeat (first | apply zf | apply ze | apply zg)); exact HO387.out))) (zJ (by (with_reducible repeat (first | apply zf | apply ze | apply zg)); exact HO391.out))) (zJ (by (with_reducible repeat (first | apply zf | apply ze | apply zg)); exact HO407.out))) (zG (by repeat (first | (with_reducible first | exact HB.out | apply zp | apply zi | apply zk | refine zj ?_ GE392.out) | exact HB.out))))
         have n6_ := zb (zs (g := gb392) (o := .cells #[.slice Ao9 t385.length co9, .int .i64 t388] 37 (0, 0)) (by (with_reducible repeat (first | refine zm ?_ _ | refine zn ?_ | refine zo ?_ _)); exact BK392.out) hb)
         have n7_ := zb (zD (by repeat (first | (with_reducible first | exact HB.out | apply zp | apply zi | apply zk | refine zj ?_ GE392.out) | exact HB.out)) hb)
         clear HO384
         clear HO387
         clear HO391
         clear HO395
         clear HO407
         clear BK392
         clear HB
         have HO384 := n0_
         have HO387 := n1_
         have HO391 := n2_
         have HO395 := n3_
         have HO407 := n4_
         have HO401 := n5_
         have BK392 := n6_
         have HB := n7_
         clear n0_ n1_ n2_ n3_ n4_ n5_ n6_ n7_
         clear hb ho34
         refine hK.out _ _ ⟨(zq BK392.out 0).trans rfl, (zq BK392.out 1).trans rfl⟩ (fun hHeld => ?_)
         clear hK K
         refine norm_ (a' := ?_) ?_ ?_
         rotate_left
         ·show Act.put _ (some 40) _ = _
          simp only [Act.put, za, zc, zd, i64_w, i32_w]
          rfl
         refine one_ (i := 15) (N := some 42) tm26 rfl rfl (one_of HT_.out (by kernel_rfl)) (by decide) (fun K hK => ?_)
         refine Kd.R_append_rows_step (Kd.int .i64) (w0 := w) w.heap.size (by rfl) (.tmp 40) (.tmp 41) 22 3 (.int .i64 0) 8 rfl Try.underlying22 info3 rfl (by decide) (by omega) v400 y399 t389 _ _ _ (fun k_ => some k_ ≠ (.slice Ao11 t382.length co11 : Value).ownBlock ∧ some k_ ≠ (.slice Ao9 t385.length co9 : Value).ownBlock ∧ some k_ ≠ (.slice Ao12 t389.length co12 : Value).ownBlock ∧ some k_ ≠ (v406 : Value).ownBlock) (fun _ => False) rfl rfl ?aO ?aR (fun _ _ h => h) (fun _ h => h.elim) ?aF ?aB ?aS ?aL ?_
         (case aR => repeat (first | exact (zl HO391.out).2.2 | (with_reducible refine zz ?_ _) | (with_reducible refine zx ?_ _) | (with_reducible refine zy ?_)))
         (case aB => exact (by repeat (first | (with_reducible first | exact HB.out | apply zp | apply zi | apply zk | refine zj ?_ GE392.out) | exact HB.out)))
         (case aF => exact (fun k_ hk => ⟨Kd.fresh' (zJ (by (with_reducible repeat (first | apply zf | apply ze | apply zg)); exact HO384.out)) k_ hk, Kd.fresh' (zJ (by (with_reducible repeat (first | apply zf | apply ze | apply zg)); exact HO387.out)) k_ hk, Kd.fresh' (zJ (by (with_reducible repeat (first | apply zf | apply ze | apply zg)); exact HO391.out)) k_ hk, Kd.fresh' (zJ (by (with_reducible repeat (first | apply zf | apply ze | apply zg)); exact HO407.out)) k_ hk⟩))
         (case aO => exact (by (with_reducible repeat (first | apply zf | apply ze | apply zg)); exact zw HO401.out (fun _ hk => ⟨hk.1.1.1.2, ⟨hk.1.1.2, ⟨hk.1.2, hk.2⟩⟩⟩)))
         (case aS => exact (zG (by repeat (first | (with_reducible first | exact HB.out | apply zp | apply zi | apply zk | refine zj ?_ GE392.out) | exact HB.out))))
         (case aL => have := LMc23.out; omega)
         intro v403 w35 ho hb hg hat
         rw [← Ny402.out] at ho
         have n0_ := zb (Kd.R_after (ok := (fun k_ => some k_ ≠ (.slice Ao9 t385.length co9 : Value).ownBlock ∧ some k_ ≠ (.slice Ao12 t389.length co12 : Value).ownBlock ∧ some k_ ≠ (v406 : Value).ownBlock)) (by (with_reducible repeat (first | apply zf | apply ze | apply zg)); exact zw HO384.out (fun _ hk => ⟨⟨hk.1.1.1, ⟨hk.1.1.2, hk.1.2⟩⟩, hk.2⟩)) hg hat)
         have n1_ := zb (Kd.R_after (ok := (fun k_ => some k_ ≠ (.slice Ao11 t382.length co11 : Value).ownBlock ∧ some k_ ≠ (.slice Ao12 t389.length co12 : Value).ownBlock ∧ some k_ ≠ (v406 : Value).ownBlock)) (by (with_reducible repeat (first | apply zf | apply ze | apply zg)); exact zw HO387.out (fun _ hk => ⟨⟨hk.1.1.1, ⟨hk.1.1.2, hk.1.2⟩⟩, hk.2⟩)) hg hat)
         have n2_ := zb (Kd.R_after (ok := (fun k_ => some k_ ≠ (.slice Ao11 t382.length co11 : Value).ownBlock ∧ some k_ ≠ (.slice Ao9 t385.length co9 : Value).ownBlock ∧ some k_ ≠ (v406 : Value).ownBlock)) (by (with_reducible repeat (first | apply zf | apply ze | apply zg)); exact zw HO391.out (fun _ hk => ⟨⟨hk.1.1.1, ⟨hk.1.1.2, hk.1.2⟩⟩, hk.2⟩)) hg hat)
         have n3_ := zb (blk_grown (g := gb392) (o := .cells #[.slice Ao9 t385.length co9, .int .i64 t388] 37 (0, 0)) (by (with_reducible repeat (first | refine zm ?_ _ | refine zn ?_ | refine zo ?_ _)); exact BK392.out) hg (Kd.R_ne HO401.out BK392.out (by decide)))
         have n4_ := zb (Kd.R_over' (by (with_reducible repeat (first | apply zf | apply ze | apply zg)); exact HO395.out) (Kd.R_typed (by (with_reducible repeat (first | apply zf | apply ze | apply zg)); exact HO401.out)) (by decide) hg)
         have n5_ := zb (Kd.R_after (ok := (fun k_ => some k_ ≠ (.slice Ao11 t382.length co11 : Value).ownBlock ∧ some k_ ≠ (.slice Ao9 t385.length co9 : Value).ownBlock ∧ some k_ ≠ (.slice Ao12 t389.length co12 : Value).ownBlock)) (by (with_reducible repeat (first | apply zf | apply ze | apply zg)); exact zw HO407.out (fun _ hk => ⟨⟨hk.1.1.1.2, ⟨hk.1.1.2, hk.1.2⟩⟩, hk.2⟩)) hg hat)
         have n6_ := zb (hb)
         have n7_ := zb (ho)
         clear HO384
         clear HO387
         clear HO391
         clear BK392
         clear HO395
         clear HO407
         clear HB
         clear HO401
         have HO384 := n0_
         have HO387 := n1_
         have HO391 := n2_
         have BK392 := n3_
         have HO395 := n4_
         have HO407 := n5_
         have HB := n6_
         have HO404 := n7_
         clear n0_ n1_ n2_ n3_ n4_ n5_ n6_ n7_
         clear ho hb hg hat
         refine hK.out _ _ ⟨(zq BK392.out 0).trans rfl, (zq BK392.out 1).trans rfl⟩ (fun hHeld => ?_)
         clear hK K
         refine norm_ (a' := ?_) ?_ ?_
         rotate_left
         ·show Act.put _ (some 42) _ = _
          simp only [Act.put, za, zc, zd, i64_w, i32_w]
          rfl
         exact norm_ (by simp only [putAll, Act.put, za, zc, zd]) (hCont (v400, v403, v406) _ ⟨hHeld, (by (with_reducible repeat (first | apply zf | apply ze | apply zg)); exact zw HO384.out (fun _ hk => ⟨hk.1.1, ⟨hk.1.2.1, ⟨hk.2, hk.1.2.2⟩⟩⟩)), (by (with_reducible repeat (first | apply zf | apply ze | apply zg)); exact zw HO387.out (fun _ hk => ⟨hk.1.1, ⟨hk.1.2.1, ⟨hk.2, hk.1.2.2⟩⟩⟩)), (by (with_reducible repeat (first | apply zf | apply ze | apply zg)); exact zw HO391.out (fun _ hk => ⟨hk.1.1, ⟨hk.1.2.1, ⟨hk.2, hk.1.2.2⟩⟩⟩)), (by (with_reducible repeat (first | apply zf | apply ze | apply zg)); exact HO395.out), (by (with_reducible repeat (first | apply zf | apply ze | apply zg)); exact HO404.out), (by (with_reducible repeat (first | apply zf | apply ze | apply zg)); exact zw HO407.out (fun _ hk => ⟨hk.1.1, ⟨hk.1.2.1, ⟨hk.1.2.2, hk.2⟩⟩⟩)), (by (with_reducible repeat (first | refine zm ?_ _ | refine zn ?_ | refine zo ?_ _)); exact BK392.out), (by repeat (first | (with_reducible first | exact HB.out | apply zp | apply zi | apply zk | refine zj ?_ GE392.out) | exact HB.out))⟩)
       rintro ⟨v400, v403, v406⟩ w36 ⟨hS_, h0_, h1_, h2_, h3_, h4_, h5_, h6_, h7_⟩
       have n0_ : Aside0 (Kd.R (Kd.int .i64) 3 w36 w.heap.size (fun k_ => some k_ ≠ (.slice Ao9 t385.length co9 : Value).ownBlock ∧ some k_ ≠ (.slice Ao12 t389.length co12 : Value).ownBlock ∧ some k_ ≠ (v403 : Value).ownBlock ∧ some k_ ≠ (v406 : Value).ownBlock) (.slice Ao11 t382.length co11) t382) := ⟨h0_⟩
       have n1_ : Aside0 (Kd.R (Kd.int .i64) 3 w36 w.heap.size (fun k_ => some k_ ≠ (.slice Ao11 t382.length co11 : Value).ownBlock ∧ some k_ ≠ (.slice Ao12 t389.length co12 : Value).ownBlock ∧ some k_ ≠ (v403 : Value).ownBlock ∧ some k_ ≠ (v406 : Value).ownBlock) (.slice Ao9 t385.length co9) t385) := ⟨h1_⟩
       have n2_ : Aside0 (Kd.R (Kd.int .i64) 3 w36 w.heap.size (fun k_ => some k_ ≠ (.slice Ao11 t382.length co11 : Value).ownBlock ∧ some k_ ≠ (.slice Ao9 t385.length co9 : Value).ownBlock ∧ some k_ ≠ (v403 : Value).ownBlock ∧ some k_ ≠ (v406 : Value).ownBlock) (.slice Ao12 t389.length co12) t389) := ⟨h2_⟩
       have n3_ : Aside0 (Kd.R k46 46 w36 w.heap.size (fun _ => True) (.slice Ao26 t393.length co26) t393) := ⟨h3_⟩
       have n4_ : Aside0 (Kd.R (Kd.int .i64) 3 w36 w.heap.size (fun k_ => some k_ ≠ (.slice Ao11 t382.length co11 : Value).ownBlock ∧ some k_ ≠ (.slice Ao9 t385.length co9 : Value).ownBlock ∧ some k_ ≠ (.slice Ao12 t389.length co12 : Value).ownBlock ∧ some k_ ≠ (v406 : Value).ownBlock) v403 y402) := ⟨h4_⟩
       have n5_ : Aside0 (Kd.R (Kd.int .i64) 3 w36 w.heap.size (fun k_ => some k_ ≠ (.slice Ao11 t382.length co11 : Value).ownBlock ∧ some k_ ≠ (.slice Ao9 t385.length co9 : Value).ownBlock ∧ some k_ ≠ (.slice Ao12 t389.length co12 : Value).ownBlock ∧ some k_ ≠ (v403 : Value).ownBlock) v406 y405) := ⟨h5_⟩
       have n6_ : Aside0 (w36.heap[gb392]? = some (.cells #[.slice Ao9 t385.length co9, .int .i64 t388] 37 (0, 0))) := ⟨h6_⟩
       have n7_ : Aside0 (Below w.heap.size w w36) := ⟨h7_⟩
       clear HO384
       clear HO387
       clear HO391
       clear HO395
       clear BK392
       clear HB
       clear h0_ h1_ h2_ h3_ h4_ h5_ h6_ h7_
       have HO384 := n0_
       have HO387 := n1_
       have HO391 := n2_
       have HO395 := n3_
       have HO404 := n4_
       have HO407 := n5_
       have BK392 := n6_
       have HB := n7_
       clear n0_ n1_ n2_ n3_ n4_ n5_ n6_ n7_
       have hHeld : w36.cell? ⟨gb392, 0, none⟩ = some (.slice Ao9 t385.length co9) ∧ w36.cell? ⟨gb392, 1, none⟩ = some (.int .i64 t388) := hS_
       obtain ⟨Ao38, co38, eo38⟩ := Kd.R_slice HO407.out
       (first | subst eo38 | (injection eo38 with f1_ f2_ f3_; have f4_ := f1_.symm; have f5_ := f3_.symm; clear f1_ f2_ f3_; subst f4_; subst f5_))
       refine norm_ (a' := ?_) ?_ ?_
       rotate_left
       ·simp only [putAll, Act.put, za, zc, zd]
        rfl
       refine one_ (i := 17) (N := some 44) tm19 rfl rfl (one_of HT_.out (by kernel_rfl)) (by decide) (fun K hK => ?_)
       refine Kd.R_append_rows_step (Kd.int .i64) (w0 := w) w.heap.size (by rfl) (.tmp 42) (.tmp 43) 22 3 (.int .i64 0) 8 rfl Try.underlying22 info3 rfl (by decide) (by omega) v403 y402 y405 _ _ _ (fun k_ => some k_ ≠ (.slice Ao11 t382.length co11 : Value).ownBlock ∧ some k_ ≠ (.slice Ao9 t385.length co9 : Value).ownBlock ∧ some k_ ≠ (.slice Ao12 t389.length co12 : Value).ownBlock ∧ some k_ ≠ (.slice Ao38 y405.length co38 : Value).ownBlock) (fun _ => False) rfl rfl ?aO ?aR (fun _ _ h => h) (fun _ h => h.elim) ?aF ?aB ?aS ?aL ?_
       (case aR => repeat (first | exact (zl HO407.out).2.2 | (with_reducible refine zz ?_ _) | (with_reducible refine zx ?_ _) | (with_reducible refine zy ?_)))
       (case aB => exact (by repeat (first | (with_reducible first | exact HB.out | apply zp | apply zi | apply zk | refine zj ?_ GE392.out) | exact HB.out)))
       (case aF => exact (fun k_ hk => ⟨Kd.fresh' (zJ (by (with_reducible repeat (first | apply zf | apply ze | apply zg)); exact HO384.out)) k_ hk, Kd.fresh' (zJ (by (with_reducible repeat (first | apply zf | apply ze | apply zg)); exact HO387.out)) k_ hk, Kd.fresh' (zJ (by (with_reducible repeat (first | apply zf | apply ze | apply zg)); exact HO391.out)) k_ hk, Kd.fresh' (zJ (by (with_reducible repeat (first | apply zf | apply ze | apply zg)); exact HO407.out)) k_ hk⟩))
       (case aO => exact (by (with_reducible repeat (first | apply zf | apply ze | apply zg)); exact HO404.out))
       (case aS => exact (zG (by repeat (first | (with_reducible first | exact HB.out | apply zp | apply zi | apply zk | refine zj ?_ GE392.out) | exact HB.out))))
       (case aL => have := LMc24.out; omega)
       intro v409 w37 ho hb hg hat
       rw [← Ny408.out] at ho
       have n0_ := zb (Kd.R_after (ok := (fun k_ => some k_ ≠ (.slice Ao9 t385.length co9 : Value).ownBlock ∧ some k_ ≠ (.slice Ao12 t389.length co12 : Value).ownBlock ∧ some k_ ≠ (.slice Ao38 y405.length co38 : Value).ownBlock)) (by (with_reducible repeat (first | apply zf | apply ze | apply zg)); exact zw HO384.out (fun _ hk => ⟨⟨hk.1, ⟨hk.2.1, hk.2.2.2⟩⟩, hk.2.2.1⟩)) hg hat)
       have n1_ := zb (Kd.R_after (ok := (fun k_ => some k_ ≠ (.slice Ao11 t382.length co11 : Value).ownBlock ∧ some k_ ≠ (.slice Ao12 t389.length co12 : Value).ownBlock ∧ some k_ ≠ (.slice Ao38 y405.length co38 : Value).ownBlock)) (by (with_reducible repeat (first | apply zf | apply ze | apply zg)); exact zw HO387.out (fun _ hk => ⟨⟨hk.1, ⟨hk.2.1, hk.2.2.2⟩⟩, hk.2.2.1⟩)) hg hat)
       have n2_ := zb (Kd.R_after (ok := (fun k_ => some k_ ≠ (.slice Ao11 t382.length co11 : Value).ownBlock ∧ some k_ ≠ (.slice Ao9 t385.length co9 : Value).ownBlock ∧ some k_ ≠ (.slice Ao38 y405.length co38 : Value).ownBlock)) (by (with_reducible repeat (first | apply zf | apply ze | apply zg)); exact zw HO391.out (fun _ hk => ⟨⟨hk.1, ⟨hk.2.1, hk.2.2.2⟩⟩, hk.2.2.1⟩)) hg hat)
       have n3_ := zb (blk_grown (g := gb392) (o := .cells #[.slice Ao9 t385.length co9, .int .i64 t388] 37 (0, 0)) (by (with_reducible repeat (first | refine zm ?_ _ | refine zn ?_ | refine zo ?_ _)); exact BK392.out) hg (Kd.R_ne HO404.out BK392.out (by decide)))
       have n4_ := zb (Kd.R_over' (by (with_reducible repeat (first | apply zf | apply ze | apply zg)); exact HO395.out) (Kd.R_typed (by (with_reducible repeat (first | apply zf | apply ze | apply zg)); exact HO404.out)) (by decide) hg)
       have n5_ := zb (Kd.R_after (ok := (fun k_ => some k_ ≠ (.slice Ao11 t382.length co11 : Value).ownBlock ∧ some k_ ≠ (.slice Ao9 t385.length co9 : Value).ownBlock ∧ some k_ ≠ (.slice Ao12 t389.length co12 : Value).ownBlock)) (by (with_reducible repeat (first | apply zf | apply ze | apply zg)); exact zw HO407.out (fun _ hk => ⟨⟨hk.1, ⟨hk.2.1, hk.2.2.1⟩⟩, hk.2.2.2⟩)) hg hat)
       have n6_ := zb (hb)
       have n7_ := zb (ho)
       clear HO384
       clear HO387
       clear HO391
       clear BK392
       clear HO395
       clear HO407
       clear HB
       clear HO404
       have HO384 := n0_
       have HO387 := n1_
       have HO391 := n2_
       have BK392 := n3_
       have HO395 := n4_
       have HO407 := n5_
       have HB := n6_
       have HO410 := n7_
       clear n0_ n1_ n2_ n3_ n4_ n5_ n6_ n7_
       clear ho hb hg hat
       obtain ⟨Ao39, co39, eo39⟩ := Kd.R_slice HO410.out
       (first | subst eo39 | (injection eo39 with f1_ f2_ f3_; have f4_ := f1_.symm; have f5_ := f3_.symm; clear f1_ f2_ f3_; subst f4_; subst f5_))
       refine hK.out _ _ ⟨(zq BK392.out 0).trans rfl, (zq BK392.out 1).trans rfl⟩ (fun hHeld => ?_)
       clear hK K
       refine norm_ (a' := ?_) ?_ ?_
       rotate_left
       ·show Act.put _ (some 44) _ = _
        simp only [Act.put, za, zc, zd, i64_w, i32_w]
        rfl
       refine one_ (i := 19) (N := some 46) tm20 rfl rfl (one_of HT_.out (by kernel_rfl)) (by decide) (fun K hK => ?_)
       refine goes_ Try.func19 (by kernel_rfl) rfl #[.agg #[.slice Ao9 t385.length co9, .int .i64 t388], .slice Ao39 y408.length co39, .slice Ao26 t393.length co26] (by rfl) rfl rfl (by (try simp only [zt, zB, zC]); first | done | rfl | (simp only [zv, zu]; rfl)) ?_
       with_reducible refine (impl_IsSigned.calls k _ _ t385 t388 _ _ y408 _ _ t393 t411 _ ?side1 ?side2 ?side3 ?side4 ?side5 ?side6 A25.out).mono ?_
       (case side1 => repeat (first | exact (zl HO387.out).2.2 | (with_reducible refine zz ?_ _) | (with_reducible refine zx ?_ _) | (with_reducible refine zy ?_)))
       (case side2 => exact (zl HO387.out).2.1)
       (case side3 => repeat (first | exact (zl HO410.out).2.2 | (with_reducible refine zz ?_ _) | (with_reducible refine zx ?_ _) | (with_reducible refine zy ?_)))
       (case side4 => exact (zl HO410.out).2.1)
       (case side5 => repeat (first | exact (zl HO395.out).2.2 | (with_reducible refine zz ?_ _) | (with_reducible refine zx ?_ _) | (with_reducible refine zy ?_)))
       (case side6 => exact (zl HO395.out).2.1)
       rintro e w40 ⟨rfl, hb⟩
       refine ⟨_, rfl, ?_⟩
       have n0_ := zb (zh (by (with_reducible repeat (first | apply zf | apply ze | apply zg)); exact HO384.out) hb)
       have n1_ := zb (zh (by (with_reducible repeat (first | apply zf | apply ze | apply zg)); exact HO387.out) hb)
       have n2_ := zb (zh (by (with_reducible repeat (first | apply zf | apply ze | apply zg)); exact HO391.out) hb)
       have n3_ := zb (zh (by (with_reducible repeat (first | apply zf | apply ze | apply zg)); exact HO395.out) hb)
       have n4_ := zb (zh (by (with_reducible repeat (first | apply zf | apply ze | apply zg)); exact HO407.out) hb)
       have n5_ := zb (zh (by (with_reducible repeat (first | apply zf | apply ze | apply zg)); exact HO410.out) hb)
       have n6_ := zb (zs (g := gb392) (o := .cells #[.slice Ao9 t385.length co9, .int .i64 t388] 37 (0, 0)) (by (with_reducible repeat (first | refine zm ?_ _ | refine zn ?_ | refine zo ?_ _)); exact BK392.out) hb)
       have n7_ := zb (zD (by repeat (first | (with_reducible first | exact HB.out | apply zp | apply zi | apply zk | refine zj ?_ GE392.out) | exact HB.out)) hb)
       clear HO384
       clear HO387
       clear HO391
       clear HO395
       clear HO407
       clear HO410
       clear BK392
       clear HB
       have HO384 := n0_
       have HO387 := n1_
       have HO391 := n2_
       have HO395 := n3_
       have HO407 := n4_
       have HO410 := n5_
       have BK392 := n6_
       have HB := n7_
       clear n0_ n1_ n2_ n3_ n4_ n5_ n6_ n7_
       (try clear hb)
       (try clear hb2)
       (try clear hk)
       (try clear hi)
       refine hK.out _ _ ⟨(zq BK392.out 0).trans rfl, (zq BK392.out 1).trans rfl⟩ (fun hHeld => ?_)
       clear hK K
       refine norm_ (a' := ?_) ?_ ?_
       rotate_left
       ·show Act.put _ (some 46) _ = _
        simp only [Act.put, za, zc, zd, i64_w, i32_w]
        rfl
       refine pure_ (i := 20) (N := some 47) (v := ?_) (a' := ?_) tm21 rfl rfl (zA HT_.out (by kernel_rfl)) (fun _ _ _ h => h) (Or.inl ⟨by rfl, ?_⟩) ?_ ?_
       rotate_left
       ·intro w'
        go_simp
        with_reducible rfl
       rotate_left
       ·simp only [Act.put, za, zc, zd, i64_w, i32_w]
        rfl
       refine pure_ (i := 21) (N := some 48) (v := ?_) (a' := ?_) tm22 rfl rfl (zA HT_.out (by kernel_rfl)) (fun _ _ _ h => h) (Or.inl ⟨by rfl, ?_⟩) ?_ ?_
       rotate_left
       ·intro w'
        go_simp
        with_reducible rfl
       rotate_left
       ·simp only [Act.put, za, zc, zd, i64_w, i32_w]
        rfl
       refine done_ (done_of HT_.out (by kernel_rfl)) ?_
       try go_wp2
       go_meet
       case rel => exact ⟨_, (t411), (by first | rfl | (simp; done) | (simp [*]; done)), H', ⟨by first | omega | exact Nat.le_refl _⟩, ⟨by (with_reducible repeat (first | apply zf | apply ze | apply zg)); exact HO395.out⟩, ⟨by (with_reducible repeat (first | apply zf | apply ze | apply zg)); exact zw HO387.out (fun _ hk => trivial)⟩, ⟨by (with_reducible repeat (first | refine zm ?_ _ | refine zn ?_ | refine zo ?_ _)); exact BK392.out⟩, ⟨by repeat (first | (with_reducible first | exact HB.out | apply zp | apply zi | apply zk | refine zj ?_ GE392.out) | exact HB.out)⟩⟩
      ·rw [if_neg c24] at H
       exact absurd H (by simp)
     ·rw [if_neg c23] at H
      exact absurd H (by simp)
    ·replace c22 := Bool.eq_false_iff.mpr c22
     subst c22
     have H1 : (laws_FnThresholds.j0 k l0 t393 false t385 t388) = some r := by rw [if_neg (show ¬ (false = true) by decide)] at H; exact H
     clear H
     have H := H1
     clear H1
     have H' := zb H
     clear H
     try go_wp2
     have n0_ := zb (zg HO384.out)
     have n1_ := zb (zg HO387.out)
     have n2_ := zb (zg HO391.out)
     have n3_ := zb (zg HO395.out)
     have n4_ := zb (zn BK392.out)
     have n5_ := zb (zk HB.out)
     clear HO384
     clear HO387
     clear HO391
     clear HO395
     clear BK392
     clear HB
     have HO384 := n0_
     have HO387 := n1_
     have HO391 := n2_
     have HO395 := n3_
     have BK392 := n4_
     have HB := n5_
     clear n0_ n1_ n2_ n3_ n4_ n5_
     obtain ⟨Ao42, co42, eo42⟩ := Kd.R_slice HO395.out
     (first | subst eo42 | (injection eo42 with f1_ f2_ f3_; have f4_ := f1_.symm; have f5_ := f3_.symm; clear f1_ f2_ f3_; subst f4_; subst f5_))
     refine start_ (n := 22) (S := fun w' => w'.cell? ⟨gb392, 0, none⟩ = some (.slice Ao9 t385.length co9) ∧ w'.cell? ⟨gb392, 1, none⟩ = some (.int .i64 t388)) (ds := []) tm0 (by kernel_rfl) rfl rfl ⟨(zq BK392.out 0).trans rfl, (zq BK392.out 1).trans rfl⟩ (fun hHeld => ?_); refine with_tabW laws_FnThresholds.tab5 laws_FnThresholds.bits5 (fun HT_ HW_ => ?_)
     generalize w13.drew = w41 at HO384 HO387 HO391 HO395 BK392 HB hHeld ⊢
     refine pure_ (i := 1) (N := some 28) (v := ?_) (a' := ?_) tm1 rfl rfl (zA HT_.out (by kernel_rfl)) (fun _ _ _ h => h) (Or.inl ⟨by rfl, ?_⟩) ?_ ?_
     rotate_left
     ·intro w'
      go_simp
      with_reducible rfl
     rotate_left
     ·simp only [Act.put, za, zc, zd, i64_w, i32_w]
      rfl
     refine pure_ (i := 2) (N := some 29) (v := ?_) (a' := ?_) tm2 rfl rfl (zA HT_.out (by kernel_rfl)) (fun _ _ _ h => h) (Or.inl ⟨by rfl, ?_⟩) ?_ ?_
     rotate_left
     ·intro w'
      go_simp
      with_reducible rfl
     rotate_left
     ·simp only [Act.put, za, zc, zd, i64_w, i32_w]
      rfl
     refine pure_ (i := 5) (N := some 32) (v := ?_) (a' := ?_) tm3 rfl rfl (zA HT_.out (by kernel_rfl)) (fun _ _ _ h => h) (Or.inl ⟨by rfl, ?_⟩) ?_ ?_
     rotate_left
     ·intro w'
      go_simp
      with_reducible rfl
     rotate_left
     ·simp only [Act.put, za, zc, zd, i64_w, i32_w]
      rfl
     refine take_ (i := 0) (N := some 27) (v := ?_) (a' := ?_) tm4 rfl rfl (take_ofW HT_.out HW_.out (by kernel_rfl)) (fun _ _ _ h => h) (Or.inl ⟨by rfl, ?_⟩) hHeld ?_ ?_
     rotate_left
     ·rintro w' ⟨s0, s1⟩
      go_simp
      with_reducible rfl
     rotate_left
     ·simp only [Act.put, za, zc, zd, i64_w, i32_w]
      rfl
     refine take_ (i := 4) (N := some 31) (v := ?_) (a' := ?_) tm5 rfl rfl (take_ofW HT_.out HW_.out (by kernel_rfl)) (fun _ _ _ h => h) (Or.inl ⟨by rfl, ?_⟩) hHeld ?_ ?_
     rotate_left
     ·rintro w' ⟨s0, s1⟩
      go_simp
      with_reducible rfl
     rotate_left
     ·simp only [Act.put, za, zc, zd, i64_w, i32_w]
      rfl
     refine one_ (i := 3) (N := some 30) tm6 rfl rfl (one_of HT_.out (by kernel_rfl)) (by decide) (fun K hK => ?_)
     refine goes_ Try.func19 (by kernel_rfl) rfl #[.agg #[.slice Ao9 t385.length co9, .int .i64 t388], .slice Ao12 t389.length co12, .slice Ao42 t393.length co42] (by rfl) rfl rfl (by (try simp only [zt, zB, zC]); first | done | rfl | (simp only [zv, zu]; rfl)) ?_
     with_reducible refine (impl_IsSigned.calls k _ _ t385 t388 _ _ t389 _ _ t393 t396 _ ?side1 ?side2 ?side3 ?side4 ?side5 ?side6 A14.out).mono ?_
     (case side1 => repeat (first | exact (zl HO387.out).2.2 | (with_reducible refine zz ?_ _) | (with_reducible refine zx ?_ _) | (with_reducible refine zy ?_)))
     (case side2 => exact (zl HO387.out).2.1)
     (case side3 => repeat (first | exact (zl HO391.out).2.2 | (with_reducible refine zz ?_ _) | (with_reducible refine zx ?_ _) | (with_reducible refine zy ?_)))
     (case side4 => exact (zl HO391.out).2.1)
     (case side5 => repeat (first | exact (zl HO395.out).2.2 | (with_reducible refine zz ?_ _) | (with_reducible refine zx ?_ _) | (with_reducible refine zy ?_)))
     (case side6 => exact (zl HO395.out).2.1)
     rintro e w43 ⟨rfl, hb⟩
     refine ⟨_, rfl, ?_⟩
     have n0_ := zb (zh (by (with_reducible repeat (first | apply zf | apply ze | apply zg)); exact HO384.out) hb)
     have n1_ := zb (zh (by (with_reducible repeat (first | apply zf | apply ze | apply zg)); exact HO387.out) hb)
     have n2_ := zb (zh (by (with_reducible repeat (first | apply zf | apply ze | apply zg)); exact HO391.out) hb)
     have n3_ := zb (zh (by (with_reducible repeat (first | apply zf | apply ze | apply zg)); exact HO395.out) hb)
     have n4_ := zb (zs (g := gb392) (o := .cells #[.slice Ao9 t385.length co9, .int .i64 t388] 37 (0, 0)) (by (with_reducible repeat (first | refine zm ?_ _ | refine zn ?_ | refine zo ?_ _)); exact BK392.out) hb)
     have n5_ := zb (zD (by repeat (first | (with_reducible first | exact HB.out | apply zp | apply zi | apply zk | refine zj ?_ GE392.out) | exact HB.out)) hb)
     clear HO384
     clear HO387
     clear HO391
     clear HO395
     clear BK392
     clear HB
     have HO384 := n0_
     have HO387 := n1_
     have HO391 := n2_
     have HO395 := n3_
     have BK392 := n4_
     have HB := n5_
     clear n0_ n1_ n2_ n3_ n4_ n5_
     (try clear hb)
     (try clear hb2)
     (try clear hk)
     (try clear hi)
     refine hK.out _ _ ⟨(zq BK392.out 0).trans rfl, (zq BK392.out 1).trans rfl⟩ (fun hHeld => ?_)
     clear hK K
     refine norm_ (a' := ?_) ?_ ?_
     rotate_left
     ·show Act.put _ (some 30) _ = _
      simp only [Act.put, za, zc, zd, i64_w, i32_w]
      rfl
     refine one_ (i := 6) (N := some 33) tm7 rfl rfl (one_of HT_.out (by kernel_rfl)) (by decide) (fun K hK => ?_)
     refine goes_ Try.func20 (by kernel_rfl) rfl #[.agg #[.slice Ao9 t385.length co9, .int .i64 t388], .slice Ao11 t382.length co11] (by rfl) rfl rfl (by (try simp only [zt, zB, zC]); first | done | rfl | (simp only [zv, zu]; rfl)) ?_
     with_reducible refine (impl_CanSign.calls k _ _ t385 t388 _ _ t382 t397 _ ?side1 ?side2 ?side3 ?side4 A15.out).mono ?_
     (case side1 => repeat (first | exact (zl HO387.out).2.2 | (with_reducible refine zz ?_ _) | (with_reducible refine zx ?_ _) | (with_reducible refine zy ?_)))
     (case side2 => exact (zl HO387.out).2.1)
     (case side3 => repeat (first | exact (zl HO384.out).2.2 | (with_reducible refine zz ?_ _) | (with_reducible refine zx ?_ _) | (with_reducible refine zy ?_)))
     (case side4 => exact (zl HO384.out).2.1)
     rintro e w44 ⟨rfl, hb⟩
     refine ⟨_, rfl, ?_⟩
     have n0_ := zb (zh (by (with_reducible repeat (first | apply zf | apply ze | apply zg)); exact HO384.out) hb)
     have n1_ := zb (zh (by (with_reducible repeat (first | apply zf | apply ze | apply zg)); exact HO387.out) hb)
     have n2_ := zb (zh (by (with_reducible repeat (first | apply zf | apply ze | apply zg)); exact HO391.out) hb)
     have n3_ := zb (zh (by (with_reducible repeat (first | apply zf | apply ze | apply zg)); exact HO395.out) hb)
     have n4_ := zb (zs (g := gb392) (o := .cells #[.slice Ao9 t385.length co9, .int .i64 t388] 37 (0, 0)) (by (with_reducible repeat (first | refine zm ?_ _ | refine zn ?_ | refine zo ?_ _)); exact BK392.out) hb)
     have n5_ := zb (zD (by repeat (first | (with_reducible first | exact HB.out | apply zp | apply zi | apply zk | refine zj ?_ GE392.out) | exact HB.out)) hb)
     clear HO384
     clear HO387
     clear HO391
     clear HO395
     clear BK392
     clear HB
     have HO384 := n0_
     have HO387 := n1_
     have HO391 := n2_
     have HO395 := n3_
     have BK392 := n4_
     have HB := n5_
     clear n0_ n1_ n2_ n3_ n4_ n5_
     (try clear hb)
     (try clear hb2)
     (try clear hk)
     (try clear hi)
     refine hK.out _ _ ⟨(zq BK392.out 0).trans rfl, (zq BK392.out 1).trans rfl⟩ (fun hHeld => ?_)
     clear hK K
     refine norm_ (a' := ?_) ?_ ?_
     rotate_left
     ·show Act.put _ (some 33) _ = _
      simp only [Act.put, za, zc, zd, i64_w, i32_w]
      rfl
     refine pure_ (i := 7) (N := some 34) (v := ?_) (a' := ?_) tm8 rfl rfl (zA HT_.out (by kernel_rfl)) (fun _ _ _ h => h) (Or.inl ⟨by rfl, ?_⟩) ?_ ?_
     rotate_left
     ·intro w'
      go_simp
      with_reducible rfl
     rotate_left
     ·simp only [Act.put, za, zc, zd, i64_w, i32_w]
      rfl
     refine pure_ (i := 8) (N := some 35) (v := ?_) (a' := ?_) tm9 rfl rfl (zA HT_.out (by kernel_rfl)) (fun _ _ _ h => h) (Or.inl ⟨by rfl, ?_⟩) ?_ ?_
     rotate_left
     ·intro w'
      go_simp
      with_reducible rfl
     rotate_left
     ·simp only [Act.put, za, zc, zd, i64_w, i32_w]
      rfl
     refine take_ (i := 9) (N := some 36) (v := ?_) (a' := ?_) tm10 rfl rfl (take_ofW HT_.out HW_.out (by kernel_rfl)) (fun _ _ _ h => h) (Or.inl ⟨by rfl, ?_⟩) hHeld ?_ ?_
     rotate_left
     ·rintro w' ⟨s0, s1⟩
      go_simp
      with_reducible rfl
     rotate_left
     ·simp only [Act.put, za, zc, zd, i64_w, i32_w]
      rfl
     refine one_ (i := 10) (N := some 37) tm11 rfl rfl (one_of HT_.out (by kernel_rfl)) (by decide) (fun K hK => ?_)
     refine goes_ Try.func21 (by kernel_rfl) rfl #[.agg #[.slice Ao9 t385.length co9, .int .i64 t388]] (by rfl) rfl rfl (by (try simp only [zt, zB, zC]); first | done | rfl | (simp only [zv, zu]; rfl)) ?_
     with_reducible refine (impl_IsKeys.calls k _ _ t385 t388 false _ ?side1 ?side2 A21.out).mono ?_
     (case side1 => repeat (first | exact (zl HO387.out).2.2 | (with_reducible refine zz ?_ _) | (with_reducible refine zx ?_ _) | (with_reducible refine zy ?_)))
     (case side2 => exact (zl HO387.out).2.1)
     rintro e w45 ⟨rfl, hb⟩
     refine ⟨_, rfl, ?_⟩
     have n0_ := zb (zh (by (with_reducible repeat (first | apply zf | apply ze | apply zg)); exact HO384.out) hb)
     have n1_ := zb (zh (by (with_reducible repeat (first | apply zf | apply ze | apply zg)); exact HO387.out) hb)
     have n2_ := zb (zh (by (with_reducible repeat (first | apply zf | apply ze | apply zg)); exact HO391.out) hb)
     have n3_ := zb (zh (by (with_reducible repeat (first | apply zf | apply ze | apply zg)); exact HO395.out) hb)
     have n4_ := zb (zs (g := gb392) (o := .cells #[.slice Ao9 t385.length co9, .int .i64 t388] 37 (0, 0)) (by (with_reducible repeat (first | refine zm ?_ _ | refine zn ?_ | refine zo ?_ _)); exact BK392.out) hb)
     have n5_ := zb (zD (by repeat (first | (with_reducible first | exact HB.out | apply zp | apply zi | apply zk | refine zj ?_ GE392.out) | exact HB.out)) hb)
     clear HO384
     clear HO387
     clear HO391
     clear HO395
     clear BK392
     clear HB
     have HO384 := n0_
     have HO387 := n1_
     have HO391 := n2_
     have HO395 := n3_
     have BK392 := n4_
     have HB := n5_
     clear n0_ n1_ n2_ n3_ n4_ n5_
     (try clear hb)
     (try clear hb2)
     (try clear hk)
     (try clear hi)
     refine hK.out _ _ ⟨(zq BK392.out 0).trans rfl, (zq BK392.out 1).trans rfl⟩ (fun hHeld => ?_)
     clear hK K
     refine norm_ (a' := ?_) ?_ ?_
     rotate_left
     ·show Act.put _ (some 37) _ = _
      simp only [Act.put, za, zc, zd, i64_w, i32_w]
      rfl
     refine pure_ (i := 11) (N := some 38) (v := ?_) (a' := ?_) tm12 rfl rfl (zA HT_.out (by kernel_rfl)) (fun _ _ _ h => h) (Or.inl ⟨by rfl, ?_⟩) ?_ ?_
     rotate_left
     ·intro w'
      go_simp
      with_reducible rfl
     rotate_left
     ·simp only [Act.put, za, zc, zd, i64_w, i32_w]
      rfl
     refine pure_ (i := 12) (N := some 39) (v := undef) (a' := ?_) tm13 rfl rfl (zA HT_.out (by kernel_rfl)) (fun _ _ _ h => h) (Or.inr ⟨by rfl, rfl⟩) ?_ ?_
     rotate_left
     ·simp only [Act.put, za, zc, zd, i64_w, i32_w]
      rfl
     refine pure_ (i := 13) (N := some 40) (v := undef) (a' := ?_) tm14 rfl rfl (zA HT_.out (by kernel_rfl)) (fun _ _ _ h => h) (Or.inr ⟨by rfl, rfl⟩) ?_ ?_
     rotate_left
     ·simp only [Act.put, za, zc, zd, i64_w, i32_w]
      rfl
     refine pure_ (i := 14) (N := some 41) (v := undef) (a' := ?_) tm15 rfl rfl (zA HT_.out (by kernel_rfl)) (fun _ _ _ h => h) (Or.inr ⟨by rfl, rfl⟩) ?_ ?_
     rotate_left
     ·simp only [Act.put, za, zc, zd, i64_w, i32_w]
      rfl
     refine pure_ (i := 15) (N := some 42) (v := undef) (a' := ?_) tm16 rfl rfl (zA HT_.out (by kernel_rfl)) (fun _ _ _ h => h) (Or.inr ⟨by rfl, rfl⟩) ?_ ?_
     rotate_left
     ·simp only [Act.put, za, zc, zd, i64_w, i32_w]
      rfl
     refine pure_ (i := 16) (N := some 43) (v := undef) (a' := ?_) tm17 rfl rfl (zA HT_.out (by kernel_rfl)) (fun _ _ _ h => h) (Or.inr ⟨by rfl, rfl⟩) ?_ ?_
     rotate_left
     ·simp only [Act.put, za, zc, zd, i64_w, i32_w]
      rfl
     refine pure_ (i := 17) (N := some 44) (v := undef) (a' := ?_) tm18 rfl rfl (zA HT_.out (by kernel_rfl)) (fun _ _ _ h => h) (Or.inr ⟨by rfl, rfl⟩) ?_ ?_
     rotate_left
     ·simp only [Act.put, za, zc, zd, i64_w, i32_w]
      rfl
     refine pure_ (i := 18) (N := some 45) (v := undef) (a' := ?_) tm19 rfl rfl (zA HT_.out (by kernel_rfl)) (fun _ _ _ h => h) (Or.inr ⟨by rfl, rfl⟩) ?_ ?_
     rotate_left
     ·simp only [Act.put, za, zc, zd, i64_w, i32_w]
      rfl
     refine pure_ (i := 19) (N := some 46) (v := undef) (a' := ?_) tm20 rfl rfl (zA HT_.out (by kernel_rfl)) (fun _ _ _ h => h) (Or.inr ⟨by rfl, rfl⟩) ?_ ?_
     rotate_left
     ·simp only [Act.put, za, zc, zd, i64_w, i32_w]
      rfl
     refine pure_ (i := 20) (N := some 47) (v := ?_) (a' := ?_) tm21 rfl rfl (zA HT_.out (by kernel_rfl)) (fun _ _ _ h => h) (Or.inl ⟨by rfl, ?_⟩) ?_ ?_
     rotate_left
     ·intro w'
      go_simp
      with_reducible rfl
     rotate_left
     ·simp only [Act.put, za, zc, zd, i64_w, i32_w]
      rfl
     refine pure_ (i := 21) (N := some 48) (v := ?_) (a' := ?_) tm22 rfl rfl (zA HT_.out (by kernel_rfl)) (fun _ _ _ h => h) (Or.inl ⟨by rfl, ?_⟩) ?_ ?_
     rotate_left
     ·intro w'
      go_simp
      with_reducible rfl
     rotate_left
     ·simp only [Act.put, za, zc, zd, i64_w, i32_w]
      rfl
     refine done_ (done_of HT_.out (by kernel_rfl)) ?_
     try go_wp2
     go_meet
     case rel => exact ⟨_, (false), (by first | rfl | (simp; done) | (simp [*]; done)), H', ⟨by first | omega | exact Nat.le_refl _⟩, ⟨by (with_reducible repeat (first | apply zf | apply ze | apply zg)); exact HO395.out⟩, ⟨by (with_reducible repeat (first | apply zf | apply ze | apply zg)); exact zw HO387.out (fun _ hk => trivial)⟩, ⟨by (with_reducible repeat (first | refine zm ?_ _ | refine zn ?_ | refine zo ?_ _)); exact BK392.out⟩, ⟨by repeat (first | (with_reducible first | exact HB.out | apply zp | apply zi | apply zk | refine zj ?_ GE392.out) | exact HB.out)⟩⟩
  case rest =>
   clear HC6
   try clear c1
   try clear c2
   try clear p2
   try clear c19
   try clear c20
   try clear c21
   try clear c22
   try clear c23
   try clear c24
   obtain ⟨kq, x48_5, rfl, HA, HJ5, HO_6, HO_393000, BK392, HB⟩ := hcut
   cases kq with
   | zero => exact absurd HA.out (by simp [laws_FnThresholds.j0])
   | succ kj5 =>
    have H := HA.out
    clear HA
    simp only [laws_FnThresholds.j0] at H
    by_cases c46 : x48_5 = true
    ·subst c46
     have H1 : (some false) = some r := by rw [if_pos rfl] at H; exact H
     clear H
     have H := H1
     clear H1
     exact absurd (za37 H) (by rw [hrt]; simp)
    ·replace c46 := Bool.eq_false_iff.mpr c46
     subst c46
     have H1 : (laws_FnThresholds.l0 kj5 l0 t393 0 t385 t388) = some r := by rw [if_neg (show ¬ (false = true) by decide)] at H; exact H
     clear H
     have H := H1
     clear H1
     have H' := zb H
     clear H
     go_wp2
     go_loopg [7] kj5 (fun kq v7 w' => ∃ (x7_2 : Int), v7 = .int .i64 x7_2 ∧ Aside0 (laws_FnThresholds.l0 kq l0 t393 x7_2 t385 t388 = some r) ∧ Aside0 (kq ≤ kj5) ∧ Aside0 (Kd.R k46 46 w' w.heap.size (fun _ => True) v394 t393) ∧ Aside0 (Kd.R (Kd.int .i64) 3 w' w.heap.size (fun _ => True) (.slice Ao9 t385.length co9) t385) ∧ Aside0 (w'.heap[gb392]? = some (.cells #[(.slice Ao9 t385.length co9), .int .i64 t388] 37 (0, 0))) ∧ Aside0 (Below w.heap.size w w'))
     case atStart => exact ⟨(0), (by first | rfl | (simp; done) | (simp [*]; done)), H', ⟨Nat.le_refl _⟩, ⟨by (with_reducible repeat (first | apply zf | apply ze | apply zg)); exact HO_6.out⟩, ⟨by (with_reducible repeat (first | apply zf | apply ze | apply zg)); exact HO_393000.out⟩, ⟨by (with_reducible repeat (first | refine zm ?_ _ | refine zn ?_ | refine zo ?_ _)); exact BK392.out⟩, ⟨by repeat (first | (with_reducible first | exact HB.out | apply zp | apply zi | apply zk | refine zj ?_ GE392.out) | exact HB.out)⟩⟩
     case round =>
      clear H'
      try clear c1
      try clear c2
      try clear p2
      try clear c4
      try clear c19
      try clear c20
      try clear c21
      try clear c22
      try clear c23
      try clear c24
      try clear c46
      try clear p2
      obtain ⟨x7_2, rfl, HA, HK2, HO_6, HO_393000, BK392, HB⟩ := hrel
      cases gk with
      | zero => exact absurd HA.out (by simp [laws_FnThresholds.l0])
      | succ k2 =>
       have H := HA.out
       clear HA
       simp only [laws_FnThresholds.l0] at H
       by_cases c47 : x7_2 < (t393.length : Int)
       ·rw [if_pos c47] at H
        have c47b0 : decide (x7_2 < (t393.length : Int)) = true := za38 c47
        clear c47
        by_cases c48 : 0 ≤ x7_2
        ·rw [if_pos c48] at H
         have c48b0 : decide (0 ≤ x7_2) = true := za38 c48
         clear c48
         replace H := zr.mp H
         obtain ⟨t413, A490, H⟩ := H
         replace H : (if t413 = true then (laws_FnThresholds.l0 k2 l0 t393 (wrap64 (x7_2 + 1)) t385 t388) else (some false)) = some r := H
         have A49 := zb A490
         clear A490
         by_cases c50 : t413 = true
         ·subst c50
          have H1 : (laws_FnThresholds.l0 k2 l0 t393 (wrap64 (x7_2 + 1)) t385 t388) = some r := by rw [if_pos rfl] at H; exact H
          clear H
          have H := H1
          clear H1
          have H' := zb H
          clear H
          obtain ⟨Ao51, co51, eo51⟩ := Kd.R_slice HO_6.out
          subst eo51
          try go_wp2
          have n0_ := zb (zg HO_6.out)
          have n1_ := zb (zg HO_393000.out)
          have n2_ := zb (zn BK392.out)
          have n3_ := zb (zk HB.out)
          clear HO_6
          clear HO_393000
          clear BK392
          clear HB
          have HO_6 := n0_
          have HO_393000 := n1_
          have BK392 := n2_
          have HB := n3_
          clear n0_ n1_ n2_ n3_
          have p412 : 0 ≤ (x7_2 : Int) := za35 (by first | (with_reducible assumption) | assumption)
          have q412 : x7_2 < (t393.length : Int) := za35 (by first | (with_reducible assumption) | assumption)
          obtain ⟨ad412, e412, hx412_0, hx412_1⟩ := at_T46 (zl HO_6.out).2.2 x7_2 p412 q412
          cases e412
          replace p412 := eq_true p412
          replace q412 := eq_true q412
          refine start_ (n := 8) (S := fun w' => w'.cell? ⟨gb392, 0, none⟩ = some (.slice Ao9 t385.length co9) ∧ w'.cell? ⟨gb392, 1, none⟩ = some (.int .i64 t388) ∧ w'.cell? (ad412.add ((x7_2).toNat * 2)) = some (.int .i64 ((rd_T46 t393 x7_2).f0)) ∧ w'.cell? ⟨(ad412.add ((x7_2).toNat * 2)).block, (ad412.add ((x7_2).toNat * 2)).off + 1, none⟩ = some (.int .i64 ((rd_T46 t393 x7_2).f1))) (ds := []) tm31 (by kernel_rfl) rfl rfl ⟨(zq BK392.out 0).trans rfl, (zq BK392.out 1).trans rfl, hx412_0, hx412_1⟩ (fun hHeld => ?_); refine with_tabW laws_FnThresholds.tab10 laws_FnThresholds.bits10 (fun HT_ HW_ => ?_)
          generalize wr.drew = w52 at HO_6 HO_393000 BK392 HB hx412_0 hx412_1 hHeld ⊢
          refine pure_ (i := 1) (N := some 56) (v := ?_) (a' := ?_) tm32 rfl rfl (zA HT_.out (by kernel_rfl)) (fun _ _ _ h => h) (Or.inl ⟨by rfl, ?_⟩) ?_ ?_
          rotate_left
          ·intro w'
           go_simp
           with_reducible rfl
          rotate_left
          ·simp only [Act.put, za, zc, zd, i64_w, i32_w]
           rfl
          refine pure_ (i := 2) (N := some 57) (v := ?_) (a' := ?_) tm33 rfl rfl (zA HT_.out (by kernel_rfl)) (fun _ _ _ h => h) (Or.inl ⟨by rfl, ?_⟩) ?_ ?_
          rotate_left
          ·intro w'
           go_simp
           with_reducible rfl
          rotate_left
          ·simp only [Act.put, za, zc, zd, i64_w, i32_w]
           rfl
          refine pure_ (i := 3) (N := some 58) (v := ?_) (a' := ?_) tm34 rfl rfl (zA HT_.out (by kernel_rfl)) (fun _ _ _ h => h) (Or.inl ⟨by rfl, ?_⟩) ?_ ?_
          rotate_left
          ·intro w'
           go_simp
           with_reducible rfl
          rotate_left
          ·simp only [Act.put, za, zc, zd, i64_w, i32_w]
           rfl
          refine pure_ (i := 4) (N := some 59) (v := ?_) (a' := ?_) tm35 rfl rfl (zA HT_.out (by kernel_rfl)) (fun _ _ _ h => h) (Or.inl ⟨by rfl, ?_⟩) ?_ ?_
          rotate_left
          ·intro w'
           go_simp
           with_reducible rfl
          rotate_left
          ·simp only [Act.put, za, zc, zd, i64_w, i32_w]
           rfl
          refine take_ (i := 0) (N := some 55) (v := ?_) (a' := ?_) tm36 rfl rfl (take_ofW HT_.out HW_.out (by kernel_rfl)) (fun _ _ _ h => h) (Or.inl ⟨by rfl, ?_⟩) hHeld ?_ ?_
          rotate_left
          ·rintro w' ⟨s0, s1, s2, s3⟩
           go_simp
           with_reducible rfl
          rotate_left
          ·simp only [Act.put, za, zc, zd, i64_w, i32_w]
           rfl
          refine take_ (i := 5) (N := some 60) (v := ?_) (a' := ?_) tm37 rfl rfl (take_ofW HT_.out HW_.out (by kernel_rfl)) (fun _ _ _ h => h) (Or.inl ⟨by rfl, ?_⟩) hHeld ?_ ?_
          rotate_left
          ·rintro w' ⟨s0, s1, s2, s3⟩
           go_simp
           with_reducible rfl
          rotate_left
          ·simp only [Act.put, za, zc, zd, i64_w, i32_w]
           rfl
          refine one_ (i := 6) (N := some 61) tm38 rfl rfl (one_of HT_.out (by kernel_rfl)) (by decide) (fun K hK => ?_)
          refine goes_ Try.func22 (by kernel_rfl) rfl #[.agg #[.slice Ao9 t385.length co9, .int .i64 t388], .int .i64 ((rd_T46 t393 x7_2).f0)] (by rfl) rfl rfl (by (try simp only [zt, zB, zC]); first | done | rfl | (simp only [zv, zu]; rfl)) ?_
          with_reducible refine (impl_HasKey.calls k2 _ _ t385 t388 ((rd_T46 t393 x7_2).f0) true _ ?side1 ?side2 A49.out).mono ?_
          (case side1 => repeat (first | exact (zl HO_393000.out).2.2 | (with_reducible refine zz ?_ _) | (with_reducible refine zx ?_ _) | (with_reducible refine zy ?_)))
          (case side2 => exact (zl HO_393000.out).2.1)
          rintro e w53 ⟨rfl, hb⟩
          have HS2_ := (hb.cell (World.block_lt_of_cell? _ _ (hHeld.2.2.1))).trans (hHeld.2.2.1)
          have HS3_ := (hb.cell (World.block_lt_of_cell? _ _ (hHeld.2.2.2))).trans (hHeld.2.2.2)
          refine ⟨_, rfl, ?_⟩
          have n0_ := zb (zh (by (with_reducible repeat (first | apply zf | apply ze | apply zg)); exact HO_6.out) hb)
          have n1_ := zb (zh (by (with_reducible repeat (first | apply zf | apply ze | apply zg)); exact HO_393000.out) hb)
          have n2_ := zb (zs (g := gb392) (o := .cells #[.slice Ao9 t385.length co9, .int .i64 t388] 37 (0, 0)) (by (with_reducible repeat (first | refine zm ?_ _ | refine zn ?_ | refine zo ?_ _)); exact BK392.out) hb)
          have n3_ := zb (zD (by repeat (first | (with_reducible first | exact HB.out | apply zp | apply zi | apply zk | refine zj ?_ GE392.out) | exact HB.out)) hb)
          clear HO_6
          clear HO_393000
          clear BK392
          clear HB
          have HO_6 := n0_
          have HO_393000 := n1_
          have BK392 := n2_
          have HB := n3_
          clear n0_ n1_ n2_ n3_
          (try clear hb)
          (try clear hb2)
          (try clear hk)
          (try clear hi)
          refine hK.out _ _ ⟨(zq BK392.out 0).trans rfl, (zq BK392.out 1).trans rfl, HS2_, HS3_⟩ (fun hHeld => ?_)
          clear hK K
          refine norm_ (a' := ?_) ?_ ?_
          rotate_left
          ·show Act.put _ (some 61) _ = _
           simp only [Act.put, za, zc, zd, i64_w, i32_w]
           rfl
          refine pure_ (i := 7) (N := some 62) (v := ?_) (a' := ?_) tm39 rfl rfl (zA HT_.out (by kernel_rfl)) (fun _ _ _ h => h) (Or.inl ⟨by rfl, ?_⟩) ?_ ?_
          rotate_left
          ·intro w'
           go_simp
           with_reducible rfl
          rotate_left
          ·simp only [Act.put, za, zc, zd, i64_w, i32_w]
           rfl
          refine done_ (done_of HT_.out (by kernel_rfl)) ?_
          try go_wp2
          go_roundg k2
          case measure => have := HJ5.out; have := HK2.out; omega
          case rel => exact ⟨(wrap64 (x7_2 + 1)), (by first | rfl | (simp; done) | (simp [*]; done)), H', ⟨by have := HJ5.out; have := HK2.out; omega⟩, ⟨by (with_reducible repeat (first | apply zf | apply ze | apply zg)); exact HO_6.out⟩, ⟨by (with_reducible repeat (first | apply zf | apply ze | apply zg)); exact HO_393000.out⟩, ⟨by (with_reducible repeat (first | refine zm ?_ _ | refine zn ?_ | refine zo ?_ _)); exact BK392.out⟩, ⟨by repeat (first | (with_reducible first | exact HB.out | apply zp | apply zi | apply zk | refine zj ?_ GE392.out) | exact HB.out)⟩⟩
         ·replace c50 := Bool.eq_false_iff.mpr c50
          subst c50
          have H1 : (some false) = some r := by rw [if_neg (show ¬ (false = true) by decide)] at H; exact H
          clear H
          have H := H1
          clear H1
          exact absurd (za37 H) (by rw [hrt]; simp)
        ·rw [if_neg c48] at H
         exact absurd H (by simp)
       ·rw [if_neg c47] at H
        have c47b0 : decide (x7_2 < (t393.length : Int)) = false := za39 c47
        clear c47
        replace H := zr.mp H
        obtain ⟨⟨t414, t417, t418, t421⟩, A570, H⟩ := H
        replace H : ((impl_CountSigs.f k2 t414 t417 t418 t421).bind fun t425 => ((spec_DrawIsSigBy.f k2 l0).bind fun bt426 => ((spec_DrawOneKey.f k2 l0).bind fun t432 => ((spec_CountSigs.f k2 t414 t417 t418 t421).bind fun t433 => (if t425 = t433 then (if t425 ≤ (t414.length : Int) then ((impl_IsSigBy.f k2 bt426.1 bt426.2.1 bt426.2.2).bind fun t434 => ((spec_IsSigBy.f k2 bt426.1 bt426.2.1 bt426.2.2).bind fun t435 => (if (t434 == t435) = true then ((impl_OneKey.f t432).bind fun bt436 => ((impl_IsKeys.f k2 bt436.1 bt436.2).bind fun t440 => (if t432 ≥ 1 then (if (t440 == (decide (t432 ≤ 99))) = true then ((impl_TagOf.f k2 3 t418).bind fun t441 => ((spec_TagOf.f k2 3 t418).bind fun t442 => (some (t441 == t442)))) else (some false)) else (if (t440 == false) = true then ((impl_TagOf.f k2 3 t418).bind fun t443 => ((spec_TagOf.f k2 3 t418).bind fun t444 => (some (t443 == t444)))) else (some false))))) else (some false)))) else (some false)) else (some false)))))) = some r := H
        have A57 := zb A570
        clear A570
        replace H := zr.mp H
        obtain ⟨t425, A580, H⟩ := H
        replace H : ((spec_DrawIsSigBy.f k2 l0).bind fun bt426 => ((spec_DrawOneKey.f k2 l0).bind fun t432 => ((spec_CountSigs.f k2 t414 t417 t418 t421).bind fun t433 => (if t425 = t433 then (if t425 ≤ (t414.length : Int) then ((impl_IsSigBy.f k2 bt426.1 bt426.2.1 bt426.2.2).bind fun t434 => ((spec_IsSigBy.f k2 bt426.1 bt426.2.1 bt426.2.2).bind fun t435 => (if (t434 == t435) = true then ((impl_OneKey.f t432).bind fun bt436 => ((impl_IsKeys.f k2 bt436.1 bt436.2).bind fun t440 => (if t432 ≥ 1 then (if (t440 == (decide (t432 ≤ 99))) = true then ((impl_TagOf.f k2 3 t418).bind fun t441 => ((spec_TagOf.f k2 3 t418).bind fun t442 => (some (t441 == t442)))) else (some false)) else (if (t440 == false) = true then ((impl_TagOf.f k2 3 t418).bind fun t443 => ((spec_TagOf.f k2 3 t418).bind fun t444 => (some (t443 == t444)))) else (some false))))) else (some false)))) else (some false)) else (some false))))) = some r := H
        have A58 := zb A580
        clear A580
        replace H := zr.mp H
        obtain ⟨⟨t426, t427, t428⟩, A590, H⟩ := H
        replace H : ((spec_DrawOneKey.f k2 l0).bind fun t432 => ((spec_CountSigs.f k2 t414 t417 t418 t421).bind fun t433 => (if t425 = t433 then (if t425 ≤ (t414.length : Int) then ((impl_IsSigBy.f k2 t426 t427 t428).bind fun t434 => ((spec_IsSigBy.f k2 t426 t427 t428).bind fun t435 => (if (t434 == t435) = true then ((impl_OneKey.f t432).bind fun bt436 => ((impl_IsKeys.f k2 bt436.1 bt436.2).bind fun t440 => (if t432 ≥ 1 then (if (t440 == (decide (t432 ≤ 99))) = true then ((impl_TagOf.f k2 3 t418).bind fun t441 => ((spec_TagOf.f k2 3 t418).bind fun t442 => (some (t441 == t442)))) else (some false)) else (if (t440 == false) = true then ((impl_TagOf.f k2 3 t418).bind fun t443 => ((spec_TagOf.f k2 3 t418).bind fun t444 => (some (t443 == t444)))) else (some false))))) else (some false)))) else (some false)) else (some false)))) = some r := H
        have A59 := zb A590
        clear A590
        replace H := zr.mp H
        obtain ⟨t432, A600, H⟩ := H
        replace H : ((spec_CountSigs.f k2 t414 t417 t418 t421).bind fun t433 => (if t425 = t433 then (if t425 ≤ (t414.length : Int) then ((impl_IsSigBy.f k2 t426 t427 t428).bind fun t434 => ((spec_IsSigBy.f k2 t426 t427 t428).bind fun t435 => (if (t434 == t435) = true then ((impl_OneKey.f t432).bind fun bt436 => ((impl_IsKeys.f k2 bt436.1 bt436.2).bind fun t440 => (if t432 ≥ 1 then (if (t440 == (decide (t432 ≤ 99))) = true then ((impl_TagOf.f k2 3 t418).bind fun t441 => ((spec_TagOf.f k2 3 t418).bind fun t442 => (some (t441 == t442)))) else (some false)) else (if (t440 == false) = true then ((impl_TagOf.f k2 3 t418).bind fun t443 => ((spec_TagOf.f k2 3 t418).bind fun t444 => (some (t443 == t444)))) else (some false))))) else (some false)))) else (some false)) else (some false))) = some r := H
        have A60 := zb A600
        clear A600
        replace H := zr.mp H
        obtain ⟨t433, A610, H⟩ := H
        replace H : (if t425 = t433 then (if t425 ≤ (t414.length : Int) then ((impl_IsSigBy.f k2 t426 t427 t428).bind fun t434 => ((spec_IsSigBy.f k2 t426 t427 t428).bind fun t435 => (if (t434 == t435) = true then ((impl_OneKey.f t432).bind fun bt436 => ((impl_IsKeys.f k2 bt436.1 bt436.2).bind fun t440 => (if t432 ≥ 1 then (if (t440 == (decide (t432 ≤ 99))) = true then ((impl_TagOf.f k2 3 t418).bind fun t441 => ((spec_TagOf.f k2 3 t418).bind fun t442 => (some (t441 == t442)))) else (some false)) else (if (t440 == false) = true then ((impl_TagOf.f k2 3 t418).bind fun t443 => ((spec_TagOf.f k2 3 t418).bind fun t444 => (some (t443 == t444)))) else (some false))))) else (some false)))) else (some false)) else (some false)) = some r := H
        have A61 := zb A610
        clear A610
        by_cases c62 : t425 = t433
        ·rw [if_pos c62] at H
         have c62b0 : (t425 == t433) = true := beq_iff_eq.mpr c62
         have c62b1 : (t425 != t433) = false := bne_eq_false_iff_eq.mpr c62
         clear c62
         by_cases c63 : t425 ≤ (t414.length : Int)
         ·rw [if_pos c63] at H
          have c63b0 : decide (t425 ≤ (t414.length : Int)) = true := za38 c63
          clear c63
          replace H := zr.mp H
          obtain ⟨t434, A640, H⟩ := H
          replace H : ((spec_IsSigBy.f k2 t426 t427 t428).bind fun t435 => (if (t434 == t435) = true then ((impl_OneKey.f t432).bind fun bt436 => ((impl_IsKeys.f k2 bt436.1 bt436.2).bind fun t440 => (if t432 ≥ 1 then (if (t440 == (decide (t432 ≤ 99))) = true then ((impl_TagOf.f k2 3 t418).bind fun t441 => ((spec_TagOf.f k2 3 t418).bind fun t442 => (some (t441 == t442)))) else (some false)) else (if (t440 == false) = true then ((impl_TagOf.f k2 3 t418).bind fun t443 => ((spec_TagOf.f k2 3 t418).bind fun t444 => (some (t443 == t444)))) else (some false))))) else (some false))) = some r := H
          have A64 := zb A640
          clear A640
          replace H := zr.mp H
          obtain ⟨t435, A650, H⟩ := H
          replace H : (if (t434 == t435) = true then ((impl_OneKey.f t432).bind fun bt436 => ((impl_IsKeys.f k2 bt436.1 bt436.2).bind fun t440 => (if t432 ≥ 1 then (if (t440 == (decide (t432 ≤ 99))) = true then ((impl_TagOf.f k2 3 t418).bind fun t441 => ((spec_TagOf.f k2 3 t418).bind fun t442 => (some (t441 == t442)))) else (some false)) else (if (t440 == false) = true then ((impl_TagOf.f k2 3 t418).bind fun t443 => ((spec_TagOf.f k2 3 t418).bind fun t444 => (some (t443 == t444)))) else (some false))))) else (some false)) = some r := H
          have A65 := zb A650
          clear A650
          by_cases c66 : (t434 == t435) = true
          ·rw [if_pos c66] at H
           have c66b0 : (t434 == t435) = true := c66
           (try (have c66b1 : decide (t434 = t435) = true := by simpa using c66))
           (try (have c66b2 : (t434 == t435) = true := by simpa using c66))
           clear c66
           replace H := zr.mp H
           obtain ⟨⟨t436, t439⟩, A670, H⟩ := H
           replace H : ((impl_IsKeys.f k2 t436 t439).bind fun t440 => (if t432 ≥ 1 then (if (t440 == (decide (t432 ≤ 99))) = true then ((impl_TagOf.f k2 3 t418).bind fun t441 => ((spec_TagOf.f k2 3 t418).bind fun t442 => (some (t441 == t442)))) else (some false)) else (if (t440 == false) = true then ((impl_TagOf.f k2 3 t418).bind fun t443 => ((spec_TagOf.f k2 3 t418).bind fun t444 => (some (t443 == t444)))) else (some false)))) = some r := H
           have A67 := zb A670
           clear A670
           replace H := zr.mp H
           obtain ⟨t440, A680, H⟩ := H
           replace H : (if t432 ≥ 1 then (if (t440 == (decide (t432 ≤ 99))) = true then ((impl_TagOf.f k2 3 t418).bind fun t441 => ((spec_TagOf.f k2 3 t418).bind fun t442 => (some (t441 == t442)))) else (some false)) else (if (t440 == false) = true then ((impl_TagOf.f k2 3 t418).bind fun t443 => ((spec_TagOf.f k2 3 t418).bind fun t444 => (some (t443 == t444)))) else (some false))) = some r := H
           have A68 := zb A680
           clear A680
           by_cases c69 : t432 ≥ 1
           ·rw [if_pos c69] at H
            have c69b0 : decide (1 ≤ t432) = true := za38 c69
            clear c69
            by_cases c70 : (t440 == (decide (t432 ≤ 99))) = true
            ·rw [if_pos c70] at H
             have c70b0 : (t440 == (decide (t432 ≤ 99))) = true := c70
             (try (have c70b1 : decide (t440 = (decide (t432 ≤ 99))) = true := by simpa using c70))
             (try (have c70b2 : (t440 == (decide (t432 ≤ 99))) = true := by simpa using c70))
             clear c70
             replace H := zr.mp H
             obtain ⟨t441, A710, H⟩ := H
             replace H : ((spec_TagOf.f k2 3 t418).bind fun t442 => (some (t441 == t442))) = some r := H
             have A71 := zb A710
             clear A710
             replace H := zr.mp H
             obtain ⟨t442, A720, H⟩ := H
             replace H : (some (t441 == t442)) = some r := H
             have A72 := zb A720
             clear A720
             obtain rfl := za37 H
             obtain ⟨Ao73, co73, eo73⟩ := Kd.R_slice HO_6.out
             subst eo73
             try go_wp2_with (first | ((with_reducible refine gate_callee (f := 23) rfl ?_); refine goesL_ (some 65) rfl rfl Try.func23 (by kernel_rfl) rfl #[.slice A0 l0.length c0] rfl (by (try simp only [zt, zB, zC]); first | done | rfl | (simp only [zv, zu]; rfl)) ?_; (with_reducible refine (spec_DrawCountSigs.calls k2 _ _ l0 t414 t417 t418 t421 _ ?side1 ?side2 A57.out).mono ?_); (case side1 => repeat (first | exact (za30 HR0.out HB.out) | (with_reducible refine zz ?_ _) | (with_reducible refine zx ?_ _) | (with_reducible refine zy ?_))); (case side2 => exact HC0.out); rintro e w74 ⟨v415, v419, v422, rfl, ho0, ho1, ho2, hb⟩; refine ⟨_, rfl, ?_⟩; have n0_ := zb (zE (by (with_reducible repeat (first | apply zf | apply ze | apply zg)); exact HO_6.out) (zI ho2) hb); have n1_ := zb (zw (Kd.R_told (Kd.R_told (Kd.R_old (by (with_reducible repeat (first | apply zf | apply ze | apply zg)); exact HO_393000.out) hb) (zI ho0)) (zI ho1)) (fun _ h_ => h_.1)); have n2_ := zb (za31 (zH ho0 (zJ (by (with_reducible repeat (first | apply zf | apply ze | apply zg)); exact HO_393000.out))) (zG (by repeat (first | (with_reducible first | exact HB.out | apply zp | apply zi | apply zk | refine zj ?_ GE392.out) | exact HB.out)))); have n3_ := zb (za31 (zH ho1 (zJ (by (with_reducible repeat (first | apply zf | apply ze | apply zg)); exact HO_393000.out))) (zG (by repeat (first | (with_reducible first | exact HB.out | apply zp | apply zi | apply zk | refine zj ?_ GE392.out) | exact HB.out)))); have n4_ := zb (za31 (zH ho2 (zJ (by (with_reducible repeat (first | apply zf | apply ze | apply zg)); exact HO_6.out))) (zG (by repeat (first | (with_reducible first | exact HB.out | apply zp | apply zi | apply zk | refine zj ?_ GE392.out) | exact HB.out)))); have n5_ := zb (zs (g := gb392) (o := .cells #[.slice Ao9 t385.length co9, .int .i64 t388] 37 (0, 0)) (by (with_reducible repeat (first | refine zm ?_ _ | refine zn ?_ | refine zo ?_ _)); exact BK392.out) hb); have n6_ := zb (zD (by repeat (first | (with_reducible first | exact HB.out | apply zp | apply zi | apply zk | refine zj ?_ GE392.out) | exact HB.out)) hb); clear HO_6; clear HO_393000; clear BK392; clear HB; have HO_6 := n0_; have HO_393000 := n1_; have HO416 := n2_; have HO420 := n3_; have HO423 := n4_; have BK392 := n5_; have HB := n6_; clear n0_ n1_ n2_ n3_ n4_ n5_ n6_; (try clear hb); (try clear hb2); (try clear hk); (try clear hi); (try clear ho0); (try clear ho1); (try clear ho2)) | ((with_reducible refine gate_dst (N := 8) rfl ?_); (try (refine gate_guard (by rfl) ?_; dsimp only)); refine box_event ?hg (N := 8) ?hd (cs := #[.slice none 0 0, .int .i64 0]) (t := 37) ?hr ?_; (case hd => rfl); (case hg => rfl); (case hr => first | (go_simp; done) | (go_simp; rfl)); intro gb424 hg w75 hbox hb; have n0_ := zb (zh (by (with_reducible repeat (first | apply zf | apply ze | apply zg)); exact HO_6.out) hb); have n1_ := zb (zh (by (with_reducible repeat (first | apply zf | apply ze | apply zg)); exact HO_393000.out) hb); have n2_ := zb (zh (by (with_reducible repeat (first | apply zf | apply ze | apply zg)); exact HO416.out) hb); have n3_ := zb (zh (by (with_reducible repeat (first | apply zf | apply ze | apply zg)); exact HO420.out) hb); have n4_ := zb (zh (by (with_reducible repeat (first | apply zf | apply ze | apply zg)); exact HO423.out) hb); have n5_ := zb (zs (g := gb392) (o := .cells #[.slice Ao9 t385.length co9, .int .i64 t388] 37 (0, 0)) (by (with_reducible repeat (first | refine zm ?_ _ | refine zn ?_ | refine zo ?_ _)); exact BK392.out) hb); have n6_ := zb (zD (by repeat (first | (with_reducible first | exact HB.out | apply zp | apply zi | apply zk | refine zj ?_ GE392.out) | exact HB.out)) hb); have n7_ := zb (hbox); have n8_ := zb ((by rw [hg]; exact (zG (by repeat (first | (with_reducible first | exact HB.out | apply zp | apply zi | apply zk | refine zj ?_ GE392.out) | exact HB.out))) : w.heap.size ≤ gb424)); have n9_ := zb ((by rw [hg]; exact (zG (by repeat (first | (with_reducible first | exact HB.out | apply zp | apply zi | apply zk | refine zj ?_ GE392.out) | exact HB.out))) : w.heap.size ≤ gb424)); have n10_ := zb ((by rw [hg]; exact Nat.ne_of_lt (blk_lt (g := gb392) (o := .cells #[.slice Ao9 t385.length co9, .int .i64 t388] 37 (0, 0)) (by (with_reducible repeat (first | refine zm ?_ _ | refine zn ?_ | refine zo ?_ _)); exact BK392.out)) : gb392 ≠ gb424)); have n11_ := zb ((by rw [hg]; exact Nat.ne_of_gt (blk_lt (g := gb392) (o := .cells #[.slice Ao9 t385.length co9, .int .i64 t388] 37 (0, 0)) (by (with_reducible repeat (first | refine zm ?_ _ | refine zn ?_ | refine zo ?_ _)); exact BK392.out)) : gb424 ≠ gb392)); clear HO_6; clear HO_393000; clear HO416; clear HO420; clear HO423; clear BK392; clear HB; have HO_6 := n0_; have HO_393000 := n1_; have HO416 := n2_; have HO420 := n3_; have HO423 := n4_; have BK392 := n5_; have HB := n6_; have BK424 := n7_; have GW424 := n8_; have GE424 := n9_; have NB392_424 := n10_; have NB424_392 := n11_; clear n0_ n1_ n2_ n3_ n4_ n5_ n6_ n7_ n8_ n9_ n10_ n11_; clear hb hbox hg; obtain ⟨Ao76, co76, eo76⟩ := Kd.R_slice HO416.out; subst eo76; have hnb77 := NB424_392.out; have hnc77 := NB392_424.out; have hcz78_0 : w75.cell? ⟨gb424, 0, none⟩ = some (.slice none 0 0) := (zq BK424.out 0).trans rfl; have hcz78_1 : w75.cell? ⟨gb424, 1, none⟩ = some (.int .i64 0) := (zq BK424.out 1).trans rfl; have hfz78_0 := blk_frozen BK424.out 0; have hfz78_1 := blk_frozen BK424.out 1; obtain ⟨Ao79, co79, eo79⟩ := Kd.R_slice HO420.out; subst eo79; obtain ⟨Ao80, co80, eo80⟩ := Kd.R_slice HO423.out; subst eo80) | ((with_reducible refine gate_callee (f := 24) rfl ?_); refine goesL_ (some 72) rfl rfl Try.func24 (by kernel_rfl) rfl #[.agg #[.slice Ao76 t414.length co76, .int .i64 t417], .slice Ao79 t418.length co79, .slice Ao80 t421.length co80] rfl (by (try simp only [zt, zB, zC]); first | done | rfl | (simp only [zv, zu]; rfl)) ?_; (with_reducible refine (impl_CountSigs.calls k2 _ _ t414 t417 _ _ t418 _ _ t421 t425 _ ?side1 ?side2 ?side3 ?side4 ?side5 ?side6 A58.out).mono ?_); (case side1 => refine (zl (e := 3) (base := w.heap.size) (ok := fun k_ => (some k_ ≠ (.slice Ao79 t418.length co79 : Value).ownBlock ∧ some k_ ≠ (.slice Ao9 t385.length co9 : Value).ownBlock)) (n := t414.length) (c := co76) ?_).2.2; exact (by (with_reducible repeat (first | apply zf | apply ze | apply zg)); exact (zw (zF (p := ⟨gb424, 1, none⟩) (zF (p := ⟨gb424, 0, none⟩) (zK HO416.out BK424.out (by decide)) (fun _ hk => hk.2) (.slice Ao76 t414.length co76)) (fun _ hk => hk.2) (.int .i64 t417)) (fun _ h_ => h_.1)))); (case side2 => exact (zl HO416.out).2.1); (case side3 => refine (zl (e := 3) (base := w.heap.size) (ok := fun k_ => (some k_ ≠ (.slice Ao76 t414.length co76 : Value).ownBlock ∧ some k_ ≠ (.slice Ao9 t385.length co9 : Value).ownBlock)) (n := t418.length) (c := co79) ?_).2.2; exact (by (with_reducible repeat (first | apply zf | apply ze | apply zg)); exact (zw (zF (p := ⟨gb424, 1, none⟩) (zF (p := ⟨gb424, 0, none⟩) (zK HO420.out BK424.out (by decide)) (fun _ hk => hk.2) (.slice Ao76 t414.length co76)) (fun _ hk => hk.2) (.int .i64 t417)) (fun _ h_ => h_.1)))); (case side4 => exact (zl HO420.out).2.1); (case side5 => refine (zl (e := 46) (base := w.heap.size) (ok := fun k_ => (True ∧ some k_ ≠ (.slice Ao73 t393.length co73 : Value).ownBlock)) (n := t421.length) (c := co80) ?_).2.2; exact (by (with_reducible repeat (first | apply zf | apply ze | apply zg)); exact (zw (zF (p := ⟨gb424, 1, none⟩) (zF (p := ⟨gb424, 0, none⟩) (zK HO423.out BK424.out (by decide)) (fun _ hk => hk.2) (.slice Ao76 t414.length co76)) (fun _ hk => hk.2) (.int .i64 t417)) (fun _ h_ => h_.1)))); (case side6 => exact (zl HO423.out).2.1); rintro e w81 ⟨rfl, hb⟩; refine ⟨_, rfl, ?_⟩; have n0_ := zb (zh (by (with_reducible repeat (first | apply zf | apply ze | apply zg)); exact (zw (zF (p := ⟨gb424, 1, none⟩) (zF (p := ⟨gb424, 0, none⟩) (zK HO_6.out BK424.out (by decide)) (fun _ hk => hk.2) (.slice Ao76 t414.length co76)) (fun _ hk => hk.2) (.int .i64 t417)) (fun _ h_ => h_.1))) hb); have n1_ := zb (zh (by (with_reducible repeat (first | apply zf | apply ze | apply zg)); exact (zw (zF (p := ⟨gb424, 1, none⟩) (zF (p := ⟨gb424, 0, none⟩) (zK HO_393000.out BK424.out (by decide)) (fun _ hk => hk.2) (.slice Ao76 t414.length co76)) (fun _ hk => hk.2) (.int .i64 t417)) (fun _ h_ => h_.1))) hb); have n2_ := zb (zh (by (with_reducible repeat (first | apply zf | apply ze | apply zg)); exact (zw (zF (p := ⟨gb424, 1, none⟩) (zF (p := ⟨gb424, 0, none⟩) (zK HO416.out BK424.out (by decide)) (fun _ hk => hk.2) (.slice Ao76 t414.length co76)) (fun _ hk => hk.2) (.int .i64 t417)) (fun _ h_ => h_.1))) hb); have n3_ := zb (zh (by (with_reducible repeat (first | apply zf | apply ze | apply zg)); exact (zw (zF (p := ⟨gb424, 1, none⟩) (zF (p := ⟨gb424, 0, none⟩) (zK HO420.out BK424.out (by decide)) (fun _ hk => hk.2) (.slice Ao76 t414.length co76)) (fun _ hk => hk.2) (.int .i64 t417)) (fun _ h_ => h_.1))) hb); have n4_ := zb (zh (by (with_reducible repeat (first | apply zf | apply ze | apply zg)); exact (zw (zF (p := ⟨gb424, 1, none⟩) (zF (p := ⟨gb424, 0, none⟩) (zK HO423.out BK424.out (by decide)) (fun _ hk => hk.2) (.slice Ao76 t414.length co76)) (fun _ hk => hk.2) (.int .i64 t417)) (fun _ h_ => h_.1))) hb); have n5_ := zb (zs (g := gb392) (o := .cells #[.slice Ao9 t385.length co9, .int .i64 t388] 37 (0, 0)) (by (with_reducible repeat (first | refine zm ?_ _ | refine zn ?_ | refine zo ?_ _)); refine blk_far ?_ NB392_424.out _; (with_reducible repeat (first | refine zm ?_ _ | refine zn ?_ | refine zo ?_ _)); refine blk_far ?_ NB392_424.out _; (with_reducible repeat (first | refine zm ?_ _ | refine zn ?_ | refine zo ?_ _)); exact BK392.out) hb); have n6_ := zb (zs (g := gb424) (o := .cells #[.slice Ao76 t414.length co76, .int .i64 t417] 37 (0, 0)) (by (with_reducible repeat (first | refine zm ?_ _ | refine zn ?_ | refine zo ?_ _)); refine blk_put (cs := #[.slice Ao76 t414.length co76, .int .i64 0]) ?_ 1 _ rfl; (with_reducible repeat (first | refine zm ?_ _ | refine zn ?_ | refine zo ?_ _)); refine blk_put (cs := #[.slice none 0 0, .int .i64 0]) ?_ 0 _ rfl; (with_reducible repeat (first | refine zm ?_ _ | refine zn ?_ | refine zo ?_ _)); exact BK424.out) hb); have n7_ := zb (zD (by repeat (first | (with_reducible first | exact HB.out | apply zp | apply zi | apply zk | refine zj ?_ GE392.out | refine zj ?_ GE424.out) | exact HB.out)) hb); clear HO_6; clear HO_393000; clear HO416; clear HO420; clear HO423; clear BK392; clear BK424; clear HB; have HO_6 := n0_; have HO_393000 := n1_; have HO416 := n2_; have HO420 := n3_; have HO423 := n4_; have BK392 := n5_; have BK424 := n6_; have HB := n7_; clear n0_ n1_ n2_ n3_ n4_ n5_ n6_ n7_; (try clear hb); (try clear hb2); (try clear hk); (try clear hi)) | ((with_reducible refine gate_callee (f := 25) rfl ?_); refine goesL_ (some 75) rfl rfl Try.func25 (by kernel_rfl) rfl #[.slice A0 l0.length c0] rfl (by (try simp only [zt, zB, zC]); first | done | rfl | (simp only [zv, zu]; rfl)) ?_; (with_reducible refine (spec_DrawIsSigBy.calls k2 _ _ l0 t426 t427 t428 _ ?side1 ?side2 A59.out).mono ?_); (case side1 => repeat (first | exact (za30 HR0.out HB.out) | (with_reducible refine zz ?_ _) | (with_reducible refine zx ?_ _) | (with_reducible refine zy ?_))); (case side2 => exact HC0.out); rintro e w82 ⟨v429, rfl, ho0, hb⟩; refine ⟨_, rfl, ?_⟩; have n0_ := zb (zh (by (with_reducible repeat (first | apply zf | apply ze | apply zg)); exact HO_6.out) hb); have n1_ := zb (zE (by (with_reducible repeat (first | apply zf | apply ze | apply zg)); exact HO_393000.out) (zI ho0) hb); have n2_ := zb (zE (by (with_reducible repeat (first | apply zf | apply ze | apply zg)); exact HO416.out) (zI ho0) hb); have n3_ := zb (zE (by (with_reducible repeat (first | apply zf | apply ze | apply zg)); exact HO420.out) (zI ho0) hb); have n4_ := zb (zh (by (with_reducible repeat (first | apply zf | apply ze | apply zg)); exact HO423.out) hb); have n5_ := zb (za31 (zH (zH (zH ho0 (zJ (by (with_reducible repeat (first | apply zf | apply ze | apply zg)); exact HO_393000.out))) (zJ (by (with_reducible repeat (first | apply zf | apply ze | apply zg)); exact HO416.out))) (zJ (by (with_reducible repeat (first | apply zf | apply ze | apply zg)); exact HO420.out))) (zG (by repeat (first | (with_reducible first | exact HB.out | apply zp | apply zi | apply zk | refine zj ?_ GE392.out | refine zj ?_ GE424.out) | exact HB.out)))); have n6_ := zb (zs (g := gb392) (o := .cells #[.slice Ao9 t385.length co9, .int .i64 t388] 37 (0, 0)) (by (with_reducible repeat (first | refine zm ?_ _ | refine zn ?_ | refine zo ?_ _)); exact BK392.out) hb); have n7_ := zb (zs (g := gb424) (o := .cells #[.slice Ao76 t414.length co76, .int .i64 t417] 37 (0, 0)) (by (with_reducible repeat (first | refine zm ?_ _ | refine zn ?_ | refine zo ?_ _)); exact BK424.out) hb); have n8_ := zb (zD (by repeat (first | (with_reducible first | exact HB.out | apply zp | apply zi | apply zk | refine zj ?_ GE392.out | refine zj ?_ GE424.out) | exact HB.out)) hb); clear HO_6; clear HO_393000; clear HO416; clear HO420; clear HO423; clear BK392; clear BK424; clear HB; have HO_6 := n0_; have HO_393000 := n1_; have HO416 := n2_; have HO420 := n3_; have HO423 := n4_; have HO430 := n5_; have BK392 := n6_; have BK424 := n7_; have HB := n8_; clear n0_ n1_ n2_ n3_ n4_ n5_ n6_ n7_ n8_; (try clear hb); (try clear hb2); (try clear hk); (try clear hi); (try clear ho0)) | ((with_reducible refine gate_dst (N := 12) rfl ?_); (try (refine gate_guard (by rfl) ?_; dsimp only)); refine box_event ?hg (N := 12) ?hd (cs := #[.int .i64 0, .int .i64 0]) (t := 46) ?hr ?_; (case hd => rfl); (case hg => rfl); (case hr => first | (go_simp; done) | (go_simp; rfl)); intro gb431 hg w83 hbox hb; have n0_ := zb (zh (Kd.R_elderB (by (with_reducible repeat (first | apply zf | apply ze | apply zg)); exact HO_6.out) gb431 (Nat.le_of_eq hg.symm)) hb); have n1_ := zb (zh (by (with_reducible repeat (first | apply zf | apply ze | apply zg)); exact HO_393000.out) hb); have n2_ := zb (zh (by (with_reducible repeat (first | apply zf | apply ze | apply zg)); exact HO416.out) hb); have n3_ := zb (zh (by (with_reducible repeat (first | apply zf | apply ze | apply zg)); exact HO420.out) hb); have n4_ := zb (zh (Kd.R_elderB (by (with_reducible repeat (first | apply zf | apply ze | apply zg)); exact HO423.out) gb431 (Nat.le_of_eq hg.symm)) hb); have n5_ := zb (zh (by (with_reducible repeat (first | apply zf | apply ze | apply zg)); exact HO430.out) hb); have n6_ := zb (zs (g := gb392) (o := .cells #[.slice Ao9 t385.length co9, .int .i64 t388] 37 (0, 0)) (by (with_reducible repeat (first | refine zm ?_ _ | refine zn ?_ | refine zo ?_ _)); exact BK392.out) hb); have n7_ := zb (zs (g := gb424) (o := .cells #[.slice Ao76 t414.length co76, .int .i64 t417] 37 (0, 0)) (by (with_reducible repeat (first | refine zm ?_ _ | refine zn ?_ | refine zo ?_ _)); exact BK424.out) hb); have n8_ := zb (zD (by repeat (first | (with_reducible first | exact HB.out | apply zp | apply zi | apply zk | refine zj ?_ GE392.out | refine zj ?_ GE424.out) | exact HB.out)) hb); have n9_ := zb (hbox); have n10_ := zb ((by rw [hg]; exact (zG (by repeat (first | (with_reducible first | exact HB.out | apply zp | apply zi | apply zk | refine zj ?_ GE392.out | refine zj ?_ GE424.out) | exact HB.out))) : w.heap.size ≤ gb431)); have n11_ := zb ((by rw [hg]; exact (zG (by repeat (first | (with_reducible first | exact HB.out | apply zp | apply zi | apply zk | refine zj ?_ GE392.out | refine zj ?_ GE424.out) | exact HB.out))) : w.heap.size ≤ gb431)); have n12_ := zb ((by rw [hg]; exact Nat.ne_of_lt (blk_lt (g := gb392) (o := .cells #[.slice Ao9 t385.length co9, .int .i64 t388] 37 (0, 0)) (by (with_reducible repeat (first | refine zm ?_ _ | refine zn ?_ | refine zo ?_ _)); exact BK392.out)) : gb392 ≠ gb431)); have n13_ := zb ((by rw [hg]; exact Nat.ne_of_gt (blk_lt (g := gb392) (o := .cells #[.slice Ao9 t385.length co9, .int .i64 t388] 37 (0, 0)) (by (with_reducible repeat (first | refine zm ?_ _ | refine zn ?_ | refine zo ?_ _)); exact BK392.out)) : gb431 ≠ gb392)); have n14_ := zb ((by rw [hg]; exact Nat.ne_of_lt (blk_lt (g := gb424) (o := .cells #[.slice Ao76 t414.length co76, .int .i64 t417] 37 (0, 0)) (by (with_reducible repeat (first | refine zm ?_ _ | refine zn ?_ | refine zo ?_ _)); exact BK424.out)) : gb424 ≠ gb431)); have n15_ := zb ((by rw [hg]; exact Nat.ne_of_gt (blk_lt (g := gb424) (o := .cells #[.slice Ao76 t414.length co76, .int .i64 t417] 37 (0, 0)) (by (with_reducible repeat (first | refine zm ?_ _ | refine zn ?_ | refine zo ?_ _)); exact BK424.out)) : gb431 ≠ gb424)); clear HO_6; clear HO_393000; clear HO416; clear HO420; clear HO423; clear HO430; clear BK392; clear BK424; clear HB; have HO_6 := n0_; have HO_393000 := n1_; have HO416 := n2_; have HO420 := n3_; have HO423 := n4_; have HO430 := n5_; have BK392 := n6_; have BK424 := n7_; have HB := n8_; have BK431 := n9_; have GW431 := n10_; have GE431 := n11_; have NB392_431 := n12_; have NB431_392 := n13_; have NB424_431 := n14_; have NB431_424 := n15_; clear n0_ n1_ n2_ n3_ n4_ n5_ n6_ n7_ n8_ n9_ n10_ n11_ n12_ n13_ n14_ n15_; clear hb hbox hg; have hnb84 := NB431_392.out; have hnc84 := NB392_431.out; have hnb85 := NB431_424.out; have hnc85 := NB424_431.out; have hcz86_0 : w83.cell? ⟨gb431, 0, none⟩ = some (.int .i64 0) := (zq BK431.out 0).trans rfl; have hcz86_1 : w83.cell? ⟨gb431, 1, none⟩ = some (.int .i64 0) := (zq BK431.out 1).trans rfl; have hfz86_0 := blk_frozen BK431.out 0; have hfz86_1 := blk_frozen BK431.out 1) | ((with_reducible refine gate_callee (f := 26) rfl ?_); refine goesL_ (some 79) rfl rfl Try.func26 (by kernel_rfl) rfl #[.slice A0 l0.length c0] rfl (by (try simp only [zt, zB, zC]); first | done | rfl | (simp only [zv, zu]; rfl)) ?_; (with_reducible refine (spec_DrawOneKey.calls k2 _ _ l0 t432 _ ?side1 ?side2 A60.out).mono ?_); (case side1 => exact za30 HR0.out (by repeat (first | (with_reducible first | exact HB.out | apply zp | apply zi | apply zk | refine zj ?_ GE392.out | refine zj ?_ GE424.out | refine zj ?_ GE431.out) | exact HB.out))); (case side2 => exact HC0.out); rintro e w87 ⟨rfl, hb⟩; refine ⟨_, rfl, ?_⟩; have n0_ := zb (zh (by (with_reducible repeat (first | apply zf | apply ze | apply zg)); exact (zw (zF (p := ⟨gb431, 1, none⟩) (zF (p := ⟨gb431, 0, none⟩) (zw HO_6.out (fun k_ hk => (⟨hk, hk.2⟩ : _ ∧ k_ ≠ gb431))) (fun _ hk => hk.2) (.int .i64 t426)) (fun _ hk => hk.2) (.int .i64 t427)) (fun _ h_ => h_.1))) hb); have n1_ := zb (zh (by (with_reducible repeat (first | apply zf | apply ze | apply zg)); exact (zw (zF (p := ⟨gb431, 1, none⟩) (zF (p := ⟨gb431, 0, none⟩) (zK HO_393000.out BK431.out (by decide)) (fun _ hk => hk.2) (.int .i64 t426)) (fun _ hk => hk.2) (.int .i64 t427)) (fun _ h_ => h_.1))) hb); have n2_ := zb (zh (by (with_reducible repeat (first | apply zf | apply ze | apply zg)); exact (zw (zF (p := ⟨gb431, 1, none⟩) (zF (p := ⟨gb431, 0, none⟩) (zK HO416.out BK431.out (by decide)) (fun _ hk => hk.2) (.int .i64 t426)) (fun _ hk => hk.2) (.int .i64 t427)) (fun _ h_ => h_.1))) hb); have n3_ := zb (zh (by (with_reducible repeat (first | apply zf | apply ze | apply zg)); exact (zw (zF (p := ⟨gb431, 1, none⟩) (zF (p := ⟨gb431, 0, none⟩) (zK HO420.out BK431.out (by decide)) (fun _ hk => hk.2) (.int .i64 t426)) (fun _ hk => hk.2) (.int .i64 t427)) (fun _ h_ => h_.1))) hb); have n4_ := zb (zh (by (with_reducible repeat (first | apply zf | apply ze | apply zg)); exact (zw (zF (p := ⟨gb431, 1, none⟩) (zF (p := ⟨gb431, 0, none⟩) (zw HO423.out (fun k_ hk => (⟨hk, hk.2⟩ : _ ∧ k_ ≠ gb431))) (fun _ hk => hk.2) (.int .i64 t426)) (fun _ hk => hk.2) (.int .i64 t427)) (fun _ h_ => h_.1))) hb); have n5_ := zb (zh (by (with_reducible repeat (first | apply zf | apply ze | apply zg)); exact (zw (zF (p := ⟨gb431, 1, none⟩) (zF (p := ⟨gb431, 0, none⟩) (zK HO430.out BK431.out (by decide)) (fun _ hk => hk.2) (.int .i64 t426)) (fun _ hk => hk.2) (.int .i64 t427)) (fun _ h_ => h_.1))) hb); have n6_ := zb (zs (g := gb392) (o := .cells #[.slice Ao9 t385.length co9, .int .i64 t388] 37 (0, 0)) (by (with_reducible repeat (first | refine zm ?_ _ | refine zn ?_ | refine zo ?_ _)); refine blk_far ?_ NB392_431.out _; (with_reducible repeat (first | refine zm ?_ _ | refine zn ?_ | refine zo ?_ _)); refine blk_far ?_ NB392_431.out _; (with_reducible repeat (first | refine zm ?_ _ | refine zn ?_ | refine zo ?_ _)); exact BK392.out) hb); have n7_ := zb (zs (g := gb424) (o := .cells #[.slice Ao76 t414.length co76, .int .i64 t417] 37 (0, 0)) (by (with_reducible repeat (first | refine zm ?_ _ | refine zn ?_ | refine zo ?_ _)); refine blk_far ?_ NB424_431.out _; (with_reducible repeat (first | refine zm ?_ _ | refine zn ?_ | refine zo ?_ _)); refine blk_far ?_ NB424_431.out _; (with_reducible repeat (first | refine zm ?_ _ | refine zn ?_ | refine zo ?_ _)); exact BK424.out) hb); have n8_ := zb (zs (g := gb431) (o := .cells #[.int .i64 t426, .int .i64 t427] 46 (0, 0)) (by (with_reducible repeat (first | refine zm ?_ _ | refine zn ?_ | refine zo ?_ _)); refine blk_put (cs := #[.int .i64 t426, .int .i64 0]) ?_ 1 _ rfl; (with_reducible repeat (first | refine zm ?_ _ | refine zn ?_ | refine zo ?_ _)); refine blk_put (cs := #[.int .i64 0, .int .i64 0]) ?_ 0 _ rfl; (with_reducible repeat (first | refine zm ?_ _ | refine zn ?_ | refine zo ?_ _)); exact BK431.out) hb); have n9_ := zb (zD (by repeat (first | (with_reducible first | exact HB.out | apply zp | apply zi | apply zk | refine zj ?_ GE392.out | refine zj ?_ GE424.out | refine zj ?_ GE431.out) | exact HB.out)) hb); clear HO_6; clear HO_393000; clear HO416; clear HO420; clear HO423; clear HO430; clear BK392; clear BK424; clear BK431; clear HB; have HO_6 := n0_; have HO_393000 := n1_; have HO416 := n2_; have HO420 := n3_; have HO423 := n4_; have HO430 := n5_; have BK392 := n6_; have BK424 := n7_; have BK431 := n8_; have HB := n9_; clear n0_ n1_ n2_ n3_ n4_ n5_ n6_ n7_ n8_ n9_; (try clear hb); (try clear hb2); (try clear hk); (try clear hi)))
             have n0_ := zb (zg HO_6.out)
             have n1_ := zb (zg HO_393000.out)
             have n2_ := zb (zg HO416.out)
             have n3_ := zb (zg HO420.out)
             have n4_ := zb (zg HO423.out)
             have n5_ := zb (zg HO430.out)
             have n6_ := zb (zn BK392.out)
             have n7_ := zb (zn BK424.out)
             have n8_ := zb (zn BK431.out)
             have n9_ := zb (zk HB.out)
             clear HO_6
             clear HO_393000
             clear HO416
             clear HO420
             clear HO423
             clear HO430
             clear BK392
             clear BK424
             clear BK431
             clear HB
             have HO_6 := n0_
             have HO_393000 := n1_
             have HO416 := n2_
             have HO420 := n3_
             have HO423 := n4_
             have HO430 := n5_
             have BK392 := n6_
             have BK424 := n7_
             have BK431 := n8_
             have HB := n9_
             clear n0_ n1_ n2_ n3_ n4_ n5_ n6_ n7_ n8_ n9_
             refine start_ (n := 42) (S := fun w' => w'.cell? ⟨gb424, 0, none⟩ = some (.slice Ao76 t414.length co76) ∧ w'.cell? ⟨gb424, 1, none⟩ = some (.int .i64 t417) ∧ w'.cell? ⟨gb431, 0, none⟩ = some (.int .i64 t426) ∧ w'.cell? ⟨gb431, 1, none⟩ = some (.int .i64 t427)) (ds := []) tm40 (by kernel_rfl) rfl rfl ⟨(zq BK424.out 0).trans rfl, (zq BK424.out 1).trans rfl, (zq BK431.out 0).trans rfl, (zq BK431.out 1).trans rfl⟩ (fun hHeld => ?_); refine with_tabW laws_FnThresholds.tab16 laws_FnThresholds.bits16 (fun HT_ HW_ => ?_)
             generalize w87.drew = w88 at HO_6 HO_393000 HO416 HO420 HO423 HO430 BK392 BK424 BK431 HB hHeld ⊢
             refine pure_ (i := 0) (N := some 80) (v := ?_) (a' := ?_) tm41 rfl rfl (zA HT_.out (by kernel_rfl)) (fun _ _ _ h => h) (Or.inl ⟨by rfl, ?_⟩) ?_ ?_
             rotate_left
             ·intro w'
              go_simp
              with_reducible rfl
             rotate_left
             ·simp only [Act.put, za, zc, zd, i64_w, i32_w]
              rfl
             refine pure_ (i := 2) (N := some 82) (v := ?_) (a' := ?_) tm42 rfl rfl (zA HT_.out (by kernel_rfl)) (fun _ _ _ h => h) (Or.inl ⟨by rfl, ?_⟩) ?_ ?_
             rotate_left
             ·intro w'
              go_simp
              with_reducible rfl
             rotate_left
             ·simp only [Act.put, za, zc, zd, i64_w, i32_w]
              rfl
             refine pure_ (i := 3) (N := some 83) (v := ?_) (a' := ?_) tm43 rfl rfl (zA HT_.out (by kernel_rfl)) (fun _ _ _ h => h) (Or.inl ⟨by rfl, ?_⟩) ?_ ?_
             rotate_left
             ·intro w'
              go_simp
              with_reducible rfl
             rotate_left
             ·simp only [Act.put, za, zc, zd, i64_w, i32_w]
              rfl
             refine take_ (i := 1) (N := some 81) (v := ?_) (a' := ?_) tm44 rfl rfl (take_ofW HT_.out HW_.out (by kernel_rfl)) (fun _ _ _ h => h) (Or.inl ⟨by rfl, ?_⟩) hHeld ?_ ?_
             rotate_left
             ·rintro w' ⟨s0, s1, s2, s3⟩
              go_simp
              with_reducible rfl
             rotate_left
             ·simp only [Act.put, za, zc, zd, i64_w, i32_w]
              rfl
             refine one_ (i := 4) (N := some 84) tm45 rfl rfl (one_of HT_.out (by kernel_rfl)) (by decide) (fun K hK => ?_)
             refine goes_ Try.func27 (by kernel_rfl) rfl #[.agg #[.slice Ao76 t414.length co76, .int .i64 t417], .slice Ao79 t418.length co79, .slice Ao80 t421.length co80] (by rfl) rfl rfl (by (try simp only [zt, zB, zC]); first | done | rfl | (simp only [zv, zu]; rfl)) ?_
             with_reducible refine (spec_CountSigs.calls k2 _ _ t414 t417 _ _ t418 _ _ t421 t433 _ ?side1 ?side2 ?side3 ?side4 ?side5 ?side6 A61.out).mono ?_
             (case side1 => repeat (first | exact (zl HO416.out).2.2 | (with_reducible refine zz ?_ _) | (with_reducible refine zx ?_ _) | (with_reducible refine zy ?_)))
             (case side2 => exact (zl HO416.out).2.1)
             (case side3 => repeat (first | exact (zl HO420.out).2.2 | (with_reducible refine zz ?_ _) | (with_reducible refine zx ?_ _) | (with_reducible refine zy ?_)))
             (case side4 => exact (zl HO420.out).2.1)
             (case side5 => repeat (first | exact (zl HO423.out).2.2 | (with_reducible refine zz ?_ _) | (with_reducible refine zx ?_ _) | (with_reducible refine zy ?_)))
             (case side6 => exact (zl HO423.out).2.1)
             rintro e w89 ⟨rfl, hb⟩
             refine ⟨_, rfl, ?_⟩
             have n0_ := zb (zh (by (with_reducible repeat (first | apply zf | apply ze | apply zg)); exact HO_6.out) hb)
             have n1_ := zb (zh (by (with_reducible repeat (first | apply zf | apply ze | apply zg)); exact HO_393000.out) hb)
             have n2_ := zb (zh (by (with_reducible repeat (first | apply zf | apply ze | apply zg)); exact HO416.out) hb)
             have n3_ := zb (zh (by (with_reducible repeat (first | apply zf | apply ze | apply zg)); exact HO420.out) hb)
             have n4_ := zb (zh (by (with_reducible repeat (first | apply zf | apply ze | apply zg)); exact HO423.out) hb)
             have n5_ := zb (zh (by (with_reducible repeat (first | apply zf | apply ze | apply zg)); exact HO430.out) hb)
             have n6_ := zb (zs (g := gb392) (o := .cells #[.slice Ao9 t385.length co9, .int .i64 t388] 37 (0, 0)) (by (with_reducible repeat (first | refine zm ?_ _ | refine zn ?_ | refine zo ?_ _)); exact BK392.out) hb)
             have n7_ := zb (zs (g := gb424) (o := .cells #[.slice Ao76 t414.length co76, .int .i64 t417] 37 (0, 0)) (by (with_reducible repeat (first | refine zm ?_ _ | refine zn ?_ | refine zo ?_ _)); exact BK424.out) hb)
             have n8_ := zb (zs (g := gb431) (o := .cells #[.int .i64 t426, .int .i64 t427] 46 (0, 0)) (by (with_reducible repeat (first | refine zm ?_ _ | refine zn ?_ | refine zo ?_ _)); exact BK431.out) hb)
             have n9_ := zb (zD (by repeat (first | (with_reducible first | exact HB.out | apply zp | apply zi | apply zk | refine zj ?_ GE392.out | refine zj ?_ GE424.out | refine zj ?_ GE431.out) | exact HB.out)) hb)
             clear HO_6
             clear HO_393000
             clear HO416
             clear HO420
             clear HO423
             clear HO430
             clear BK392
             clear BK424
             clear BK431
             clear HB
             have HO_6 := n0_
             have HO_393000 := n1_
             have HO416 := n2_
             have HO420 := n3_
             have HO423 := n4_
             have HO430 := n5_
             have BK392 := n6_
             have BK424 := n7_
             have BK431 := n8_
             have HB := n9_
             clear n0_ n1_ n2_ n3_ n4_ n5_ n6_ n7_ n8_ n9_
             (try clear hb)
             (try clear hb2)
             (try clear hk)
             (try clear hi)
             obtain ⟨Ao90, co90, eo90⟩ := Kd.R_slice HO430.out
             (first | subst eo90 | (injection eo90 with f1_ f2_ f3_; have f4_ := f1_.symm; have f5_ := f3_.symm; clear f1_ f2_ f3_; subst f4_; subst f5_))
             refine hK.out _ _ ⟨(zq BK424.out 0).trans rfl, (zq BK424.out 1).trans rfl, (zq BK431.out 0).trans rfl, (zq BK431.out 1).trans rfl⟩ (fun hHeld => ?_)
             clear hK K
             refine norm_ (a' := ?_) ?_ ?_
             rotate_left
             ·show Act.put _ (some 84) _ = _
              simp only [Act.put, za, zc, zd, i64_w, i32_w]
              rfl
             refine pure_ (i := 5) (N := some 85) (v := ?_) (a' := ?_) tm46 rfl rfl (zA HT_.out (by kernel_rfl)) (fun _ _ _ h => h) (Or.inl ⟨by rfl, ?_⟩) ?_ ?_
             rotate_left
             ·intro w'
              go_simp
              with_reducible rfl
             rotate_left
             ·simp only [Act.put, za, zc, zd, i64_w, i32_w]
              rfl
             refine pure_ (i := 6) (N := some 86) (v := ?_) (a' := ?_) tm47 rfl rfl (zA HT_.out (by kernel_rfl)) (fun _ _ _ h => h) (Or.inl ⟨by rfl, ?_⟩) ?_ ?_
             rotate_left
             ·intro w'
              go_simp
              with_reducible rfl
             rotate_left
             ·simp only [Act.put, za, zc, zd, i64_w, i32_w]
              rfl
             refine pure_ (i := 7) (N := some 87) (v := ?_) (a' := ?_) tm48 rfl rfl (zA HT_.out (by kernel_rfl)) (fun _ _ _ h => h) (Or.inl ⟨by rfl, ?_⟩) ?_ ?_
             rotate_left
             ·intro w'
              go_simp
              with_reducible rfl
             rotate_left
             ·simp only [Act.put, za, zc, zd, i64_w, i32_w]
              rfl
             refine pure_ (i := 8) (N := some 88) (v := ?_) (a' := ?_) tm49 rfl rfl (zA HT_.out (by kernel_rfl)) (fun _ _ _ h => h) (Or.inl ⟨by rfl, ?_⟩) ?_ ?_
             rotate_left
             ·intro w'
              go_simp
              with_reducible rfl
             rotate_left
             ·simp only [Act.put, za, zc, zd, i64_w, i32_w]
              rfl
             refine take_ (i := 9) (N := some 89) (v := ?_) (a' := ?_) tm50 rfl rfl (take_ofW HT_.out HW_.out (by kernel_rfl)) (fun _ _ _ h => h) (Or.inl ⟨by rfl, ?_⟩) hHeld ?_ ?_
             rotate_left
             ·rintro w' ⟨s0, s1, s2, s3⟩
              go_simp
              with_reducible rfl
             rotate_left
             ·simp only [Act.put, za, zc, zd, i64_w, i32_w]
              rfl
             refine pure_ (i := 10) (N := some 90) (v := ?_) (a' := ?_) tm51 rfl rfl (zA HT_.out (by kernel_rfl)) (fun _ _ _ h => h) (Or.inl ⟨by rfl, ?_⟩) ?_ ?_
             rotate_left
             ·intro w'
              go_simp
              with_reducible rfl
             rotate_left
             ·simp only [Act.put, za, zc, zd, i64_w, i32_w]
              rfl
             refine pure_ (i := 11) (N := some 91) (v := ?_) (a' := ?_) tm52 rfl rfl (zA HT_.out (by kernel_rfl)) (fun _ _ _ h => h) (Or.inl ⟨by rfl, ?_⟩) ?_ ?_
             rotate_left
             ·intro w'
              go_simp
              with_reducible rfl
             rotate_left
             ·simp only [Act.put, za, zc, zd, i64_w, i32_w]
              rfl
             refine pure_ (i := 12) (N := some 92) (v := ?_) (a' := ?_) tm53 rfl rfl (zA HT_.out (by kernel_rfl)) (fun _ _ _ h => h) (Or.inl ⟨by rfl, ?_⟩) ?_ ?_
             rotate_left
             ·intro w'
              go_simp
              with_reducible rfl
             rotate_left
             ·simp only [Act.put, za, zc, zd, i64_w, i32_w]
              rfl
             refine pure_ (i := 13) (N := some 93) (v := ?_) (a' := ?_) tm54 rfl rfl (zA HT_.out (by kernel_rfl)) (fun _ _ _ h => h) (Or.inl ⟨by rfl, ?_⟩) ?_ ?_
             rotate_left
             ·intro w'
              go_simp
              with_reducible rfl
             rotate_left
             ·simp only [Act.put, za, zc, zd, i64_w, i32_w]
              rfl
             refine pure_ (i := 15) (N := some 95) (v := ?_) (a' := ?_) tm55 rfl rfl (zA HT_.out (by kernel_rfl)) (fun _ _ _ h => h) (Or.inl ⟨by rfl, ?_⟩) ?_ ?_
             rotate_left
             ·intro w'
              go_simp
              with_reducible rfl
             rotate_left
             ·simp only [Act.put, za, zc, zd, i64_w, i32_w]
              rfl
             refine pure_ (i := 18) (N := some 98) (v := ?_) (a' := ?_) tm56 rfl rfl (zA HT_.out (by kernel_rfl)) (fun _ _ _ h => h) (Or.inl ⟨by rfl, ?_⟩) ?_ ?_
             rotate_left
             ·intro w'
              go_simp
              with_reducible rfl
             rotate_left
             ·simp only [Act.put, za, zc, zd, i64_w, i32_w]
              rfl
             refine take_ (i := 14) (N := some 94) (v := ?_) (a' := ?_) tm57 rfl rfl (take_ofW HT_.out HW_.out (by kernel_rfl)) (fun _ _ _ h => h) (Or.inl ⟨by rfl, ?_⟩) hHeld ?_ ?_
             rotate_left
             ·rintro w' ⟨s0, s1, s2, s3⟩
              go_simp
              with_reducible rfl
             rotate_left
             ·simp only [Act.put, za, zc, zd, i64_w, i32_w]
              rfl
             refine take_ (i := 17) (N := some 97) (v := ?_) (a' := ?_) tm58 rfl rfl (take_ofW HT_.out HW_.out (by kernel_rfl)) (fun _ _ _ h => h) (Or.inl ⟨by rfl, ?_⟩) hHeld ?_ ?_
             rotate_left
             ·rintro w' ⟨s0, s1, s2, s3⟩
              go_simp
              with_reducible rfl
             rotate_left
             ·simp only [Act.put, za, zc, zd, i64_w, i32_w]
              rfl
             refine one_ (i := 16) (N := some 96) tm59 rfl rfl (one_of HT_.out (by kernel_rfl)) (by decide) (fun K hK => ?_)
             refine goes_ Try.func28 (by kernel_rfl) rfl #[.agg #[.int .i64 t426, .int .i64 t427], .slice Ao90 t428.length co90] (by rfl) rfl rfl (by (try simp only [zt, zB, zC]); first | done | rfl | (simp only [zv, zu]; rfl)) ?_
             with_reducible refine (impl_IsSigBy.calls k2 t426 t427 _ _ t428 t434 _ ?side1 ?side2 A64.out).mono ?_
             (case side1 => repeat (first | exact (zl HO430.out).2.2 | (with_reducible refine zz ?_ _) | (with_reducible refine zx ?_ _) | (with_reducible refine zy ?_)))
             (case side2 => exact (zl HO430.out).2.1)
             rintro e w91 ⟨rfl, hb⟩
             refine ⟨_, rfl, ?_⟩
             have n0_ := zb (zh (by (with_reducible repeat (first | apply zf | apply ze | apply zg)); exact HO_6.out) hb)
             have n1_ := zb (zh (by (with_reducible repeat (first | apply zf | apply ze | apply zg)); exact HO_393000.out) hb)
             have n2_ := zb (zh (by (with_reducible repeat (first | apply zf | apply ze | apply zg)); exact HO416.out) hb)
             have n3_ := zb (zh (by (with_reducible repeat (first | apply zf | apply ze | apply zg)); exact HO420.out) hb)
             have n4_ := zb (zh (by (with_reducible repeat (first | apply zf | apply ze | apply zg)); exact HO423.out) hb)
             have n5_ := zb (zh (by (with_reducible repeat (first | apply zf | apply ze | apply zg)); exact HO430.out) hb)
             have n6_ := zb (zs (g := gb392) (o := .cells #[.slice Ao9 t385.length co9, .int .i64 t388] 37 (0, 0)) (by (with_reducible repeat (first | refine zm ?_ _ | refine zn ?_ | refine zo ?_ _)); exact BK392.out) hb)
             have n7_ := zb (zs (g := gb424) (o := .cells #[.slice Ao76 t414.length co76, .int .i64 t417] 37 (0, 0)) (by (with_reducible repeat (first | refine zm ?_ _ | refine zn ?_ | refine zo ?_ _)); exact BK424.out) hb)
             have n8_ := zb (zs (g := gb431) (o := .cells #[.int .i64 t426, .int .i64 t427] 46 (0, 0)) (by (with_reducible repeat (first | refine zm ?_ _ | refine zn ?_ | refine zo ?_ _)); exact BK431.out) hb)
             have n9_ := zb (zD (by repeat (first | (with_reducible first | exact HB.out | apply zp | apply zi | apply zk | refine zj ?_ GE392.out | refine zj ?_ GE424.out | refine zj ?_ GE431.out) | exact HB.out)) hb)
             clear HO_6
             clear HO_393000
             clear HO416
             clear HO420
             clear HO423
             clear HO430
             clear BK392
             clear BK424
             clear BK431
             clear HB
             have HO_6 := n0_
             have HO_393000 := n1_
             have HO416 := n2_
             have HO420 := n3_
             have HO423 := n4_
             have HO430 := n5_
             have BK392 := n6_
             have BK424 := n7_
             have BK431 := n8_
             have HB := n9_
             clear n0_ n1_ n2_ n3_ n4_ n5_ n6_ n7_ n8_ n9_
             (try clear hb)
             (try clear hb2)
             (try clear hk)
             (try clear hi)
             refine hK.out _ _ ⟨(zq BK424.out 0).trans rfl, (zq BK424.out 1).trans rfl, (zq BK431.out 0).trans rfl, (zq BK431.out 1).trans rfl⟩ (fun hHeld => ?_)
             clear hK K
             refine norm_ (a' := ?_) ?_ ?_
             rotate_left
             ·show Act.put _ (some 96) _ = _
              simp only [Act.put, za, zc, zd, i64_w, i32_w]
              rfl
             refine one_ (i := 19) (N := some 99) tm60 rfl rfl (one_of HT_.out (by kernel_rfl)) (by decide) (fun K hK => ?_)
             refine goes_ Try.func29 (by kernel_rfl) rfl #[.agg #[.int .i64 t426, .int .i64 t427], .slice Ao90 t428.length co90] (by rfl) rfl rfl (by (try simp only [zt, zB, zC]); first | done | rfl | (simp only [zv, zu]; rfl)) ?_
             with_reducible refine (spec_IsSigBy.calls k2 t426 t427 _ _ t428 t435 _ ?side1 ?side2 A65.out).mono ?_
             (case side1 => repeat (first | exact (zl HO430.out).2.2 | (with_reducible refine zz ?_ _) | (with_reducible refine zx ?_ _) | (with_reducible refine zy ?_)))
             (case side2 => exact (zl HO430.out).2.1)
             rintro e w92 ⟨rfl, hb⟩
             refine ⟨_, rfl, ?_⟩
             have n0_ := zb (zh (by (with_reducible repeat (first | apply zf | apply ze | apply zg)); exact HO_6.out) hb)
             have n1_ := zb (zh (by (with_reducible repeat (first | apply zf | apply ze | apply zg)); exact HO_393000.out) hb)
             have n2_ := zb (zh (by (with_reducible repeat (first | apply zf | apply ze | apply zg)); exact HO416.out) hb)
             have n3_ := zb (zh (by (with_reducible repeat (first | apply zf | apply ze | apply zg)); exact HO420.out) hb)
             have n4_ := zb (zh (by (with_reducible repeat (first | apply zf | apply ze | apply zg)); exact HO423.out) hb)
             have n5_ := zb (zh (by (with_reducible repeat (first | apply zf | apply ze | apply zg)); exact HO430.out) hb)
             have n6_ := zb (zs (g := gb392) (o := .cells #[.slice Ao9 t385.length co9, .int .i64 t388] 37 (0, 0)) (by (with_reducible repeat (first | refine zm ?_ _ | refine zn ?_ | refine zo ?_ _)); exact BK392.out) hb)
             have n7_ := zb (zs (g := gb424) (o := .cells #[.slice Ao76 t414.length co76, .int .i64 t417] 37 (0, 0)) (by (with_reducible repeat (first | refine zm ?_ _ | refine zn ?_ | refine zo ?_ _)); exact BK424.out) hb)
             have n8_ := zb (zs (g := gb431) (o := .cells #[.int .i64 t426, .int .i64 t427] 46 (0, 0)) (by (with_reducible repeat (first | refine zm ?_ _ | refine zn ?_ | refine zo ?_ _)); exact BK431.out) hb)
             have n9_ := zb (zD (by repeat (first | (with_reducible first | exact HB.out | apply zp | apply zi | apply zk | refine zj ?_ GE392.out | refine zj ?_ GE424.out | refine zj ?_ GE431.out) | exact HB.out)) hb)
             clear HO_6
             clear HO_393000
             clear HO416
             clear HO420
             clear HO423
             clear HO430
             clear BK392
             clear BK424
             clear BK431
             clear HB
             have HO_6 := n0_
             have HO_393000 := n1_
             have HO416 := n2_
             have HO420 := n3_
             have HO423 := n4_
             have HO430 := n5_
             have BK392 := n6_
             have BK424 := n7_
             have BK431 := n8_
             have HB := n9_
             clear n0_ n1_ n2_ n3_ n4_ n5_ n6_ n7_ n8_ n9_
             (try clear hb)
             (try clear hb2)
             (try clear hk)
             (try clear hi)
             refine hK.out _ _ ⟨(zq BK424.out 0).trans rfl, (zq BK424.out 1).trans rfl, (zq BK431.out 0).trans rfl, (zq BK431.out 1).trans rfl⟩ (fun hHeld => ?_)
             clear hK K
             refine norm_ (a' := ?_) ?_ ?_
             rotate_left
             ·show Act.put _ (some 99) _ = _
              simp only [Act.put, za, zc, zd, i64_w, i32_w]
              rfl
             refine pure_ (i := 20) (N := some 100) (v := ?_) (a' := ?_) tm61 rfl rfl (zA HT_.out (by kernel_rfl)) (fun _ _ _ h => h) (Or.inl ⟨by rfl, ?_⟩) ?_ ?_
             rotate_left
             ·intro w'
              go_simp
              with_reducible rfl
             rotate_left
             ·simp only [Act.put, za, zc, zd, i64_w, i32_w]
              rfl
             refine pure_ (i := 21) (N := some 101) (v := ?_) (a' := ?_) tm62 rfl rfl (zA HT_.out (by kernel_rfl)) (fun _ _ _ h => h) (Or.inl ⟨by rfl, ?_⟩) ?_ ?_
             rotate_left
             ·intro w'
              go_simp
              with_reducible rfl
             rotate_left
             ·simp only [Act.put, za, zc, zd, i64_w, i32_w]
              rfl
             refine pure_ (i := 22) (N := some 102) (v := ?_) (a' := ?_) tm63 rfl rfl (zA HT_.out (by kernel_rfl)) (fun _ _ _ h => h) (Or.inl ⟨by rfl, ?_⟩) ?_ ?_
             rotate_left
             ·intro w'
              go_simp
              with_reducible rfl
             rotate_left
             ·simp only [Act.put, za, zc, zd, i64_w, i32_w]
              rfl
             refine pure_ (i := 23) (N := some 103) (v := ?_) (a' := ?_) tm64 rfl rfl (zA HT_.out (by kernel_rfl)) (fun _ _ _ h => h) (Or.inl ⟨by rfl, ?_⟩) ?_ ?_
             rotate_left
             ·intro w'
              go_simp
              with_reducible rfl
             rotate_left
             ·simp only [Act.put, za, zc, zd, i64_w, i32_w]
              rfl
             refine pure_ (i := 26) (N := some 106) (v := ?_) (a' := ?_) tm65 rfl rfl (zA HT_.out (by kernel_rfl)) (fun _ _ _ h => h) (Or.inl ⟨by rfl, ?_⟩) ?_ ?_
             rotate_left
             ·intro w'
              go_simp
              with_reducible rfl
             rotate_left
             ·simp only [Act.put, za, zc, zd, i64_w, i32_w]
              rfl
             refine pure_ (i := 27) (N := some 107) (v := ?_) (a' := ?_) tm66 rfl rfl (zA HT_.out (by kernel_rfl)) (fun _ _ _ h => h) (Or.inl ⟨by rfl, ?_⟩) ?_ ?_
             rotate_left
             ·intro w'
              go_simp
              with_reducible rfl
             rotate_left
             ·simp only [Act.put, za, zc, zd, i64_w, i32_w]
              rfl
             refine one_ (i := 24) (N := some 104) tm67 rfl rfl (one_of HT_.out (by kernel_rfl)) (by decide) (fun K hK => ?_)
             refine goes_ Try.func30 (by kernel_rfl) rfl #[.int .i64 t432] (by rfl) rfl rfl (by (try simp only [zt, zB, zC]); first | done | rfl | (simp only [zv, zu]; rfl)) ?_
             with_reducible refine (impl_OneKey.calls t432 t436 t439 _ A67.out).mono ?_
             rintro e w93 ⟨v437, rfl, ho0, hb⟩
             refine ⟨_, rfl, ?_⟩
             have n0_ := zb (zh (by (with_reducible repeat (first | apply zf | apply ze | apply zg)); exact HO_6.out) hb)
             have n1_ := zb (zE (by (with_reducible repeat (first | apply zf | apply ze | apply zg)); exact HO_393000.out) (zI ho0) hb)
             have n2_ := zb (zE (by (with_reducible repeat (first | apply zf | apply ze | apply zg)); exact HO416.out) (zI ho0) hb)
             have n3_ := zb (zE (by (with_reducible repeat (first | apply zf | apply ze | apply zg)); exact HO420.out) (zI ho0) hb)
             have n4_ := zb (zh (by (with_reducible repeat (first | apply zf | apply ze | apply zg)); exact HO423.out) hb)
             have n5_ := zb (zE (by (with_reducible repeat (first | apply zf | apply ze | apply zg)); exact HO430.out) (zI ho0) hb)
             have n6_ := zb (za31 (zH (zH (zH (zH ho0 (zJ (by (with_reducible repeat (first | apply zf | apply ze | apply zg)); exact HO_393000.out))) (zJ (by (with_reducible repeat (first | apply zf | apply ze | apply zg)); exact HO416.out))) (zJ (by (with_reducible repeat (first | apply zf | apply ze | apply zg)); exact HO420.out))) (zJ (by (with_reducible repeat (first | apply zf | apply ze | apply zg)); exact HO430.out))) (zG (by repeat (first | (with_reducible first | exact HB.out | apply zp | apply zi | apply zk | refine zj ?_ GE392.out | refine zj ?_ GE424.out | refine zj ?_ GE431.out) | exact HB.out))))
             have n7_ := zb (zs (g := gb392) (o := .cells #[.slice Ao9 t385.length co9, .int .i64 t388] 37 (0, 0)) (by (with_reducible repeat (first | refine zm ?_ _ | refine zn ?_ | refine zo ?_ _)); exact BK392.out) hb)
             have n8_ := zb (zs (g := gb424) (o := .cells #[.slice Ao76 t414.length co76, .int .i64 t417] 37 (0, 0)) (by (with_reducible repeat (first | refine zm ?_ _ | refine zn ?_ | refine zo ?_ _)); exact BK424.out) hb)
             have n9_ := zb (zs (g := gb431) (o := .cells #[.int .i64 t426, .int .i64 t427] 46 (0, 0)) (by (with_reducible repeat (first | refine zm ?_ _ | refine zn ?_ | refine zo ?_ _)); exact BK431.out) hb)
             have n10_ := zb (zD (by repeat (first | (with_reducible first | exact HB.out | apply zp | apply zi | apply zk | refine zj ?_ GE392.out | refine zj ?_ GE424.out | refine zj ?_ GE431.out) | exact HB.out)) hb)
             clear HO_6
             clear HO_393000
             clear HO416
             clear HO420
             clear HO423
             clear HO430
             clear BK392
             clear BK424
             clear BK431
             clear HB
             have HO_6 := n0_
             have HO_393000 := n1_
             have HO416 := n2_
             have HO420 := n3_
             have HO423 := n4_
             have HO430 := n5_
             have HO438 := n6_
             have BK392 := n7_
             have BK424 := n8_
             have BK431 := n9_
             have HB := n10_
             clear n0_ n1_ n2_ n3_ n4_ n5_ n6_ n7_ n8_ n9_ n10_
             (try clear hb)
             (try clear hb2)
             (try clear hk)
             (try clear hi)
             (try clear ho0)
             obtain ⟨Ao94, co94, eo94⟩ := Kd.R_slice HO438.out
             (first | subst eo94 | (injection eo94 with f1_ f2_ f3_; have f4_ := f1_.symm; have f5_ := f3_.symm; clear f1_ f2_ f3_; subst f4_; subst f5_))
             refine hK.out _ _ ⟨(zq BK424.out 0).trans rfl, (zq BK424.out 1).trans rfl, (zq BK431.out 0).trans rfl, (zq BK431.out 1).trans rfl⟩ (fun hHeld => ?_)
             clear hK K
             refine norm_ (a' := ?_) ?_ ?_
             rotate_left
             ·show Act.put _ (some 104) _ = _
              simp only [Act.put, za, zc, zd, i64_w, i32_w]
              rfl
             refine one_ (i := 25) (N := some 105) tm68 rfl rfl (one_of HT_.out (by kernel_rfl)) (by decide) (fun K hK => ?_)
             refine goes_ Try.func21 (by kernel_rfl) rfl #[.agg #[.slice Ao94 t436.length co94, .int .i64 t439]] (by rfl) rfl rfl (by (try simp only [zt, zB, zC]); first | done | rfl | (simp only [zv, zu]; rfl)) ?_
             with_reducible refine (impl_IsKeys.calls k2 _ _ t436 t439 t440 _ ?side1 ?side2 A68.out).mono ?_
             (case side1 => repeat (first | exact (zl HO438.out).2.2 | (with_reducible refine zz ?_ _) | (with_reducible refine zx ?_ _) | (with_reducible refine zy ?_)))
             (case side2 => exact (zl HO438.out).2.1)
             rintro e w95 ⟨rfl, hb⟩
             refine ⟨_, rfl, ?_⟩
             have n0_ := zb (zh (by (with_reducible repeat (first | apply zf | apply ze | apply zg)); exact HO_6.out) hb)
             have n1_ := zb (zh (by (with_reducible repeat (first | apply zf | apply ze | apply zg)); exact HO_393000.out) hb)
             have n2_ := zb (zh (by (with_reducible repeat (first | apply zf | apply ze | apply zg)); exact HO416.out) hb)
             have n3_ := zb (zh (by (with_reducible repeat (first | apply zf | apply ze | apply zg)); exact HO420.out) hb)
             have n4_ := zb (zh (by (with_reducible repeat (first | apply zf | apply ze | apply zg)); exact HO423.out) hb)
             have n5_ := zb (zh (by (with_reducible repeat (first | apply zf | apply ze | apply zg)); exact HO430.out) hb)
             have n6_ := zb (zh (by (with_reducible repeat (first | apply zf | apply ze | apply zg)); exact HO438.out) hb)
             have n7_ := zb (zs (g := gb392) (o := .cells #[.slice Ao9 t385.length co9, .int .i64 t388] 37 (0, 0)) (by (with_reducible repeat (first | refine zm ?_ _ | refine zn ?_ | refine zo ?_ _)); exact BK392.out) hb)
             have n8_ := zb (zs (g := gb424) (o := .cells #[.slice Ao76 t414.length co76, .int .i64 t417] 37 (0, 0)) (by (with_reducible repeat (first | refine zm ?_ _ | refine zn ?_ | refine zo ?_ _)); exact BK424.out) hb)
             have n9_ := zb (zs (g := gb431) (o := .cells #[.int .i64 t426, .int .i64 t427] 46 (0, 0)) (by (with_reducible repeat (first | refine zm ?_ _ | refine zn ?_ | refine zo ?_ _)); exact BK431.out) hb)
             have n10_ := zb (zD (by repeat (first | (with_reducible first | exact HB.out | apply zp | apply zi | apply zk | refine zj ?_ GE392.out | refine zj ?_ GE424.out | refine zj ?_ GE431.out) | exact HB.out)) hb)
             clear HO_6
             clear HO_393000
             clear HO416
             clear HO420
             clear HO423
             clear HO430
             clear HO438
             clear BK392
             clear BK424
             clear BK431
             clear HB
             have HO_6 := n0_
             have HO_393000 := n1_
             have HO416 := n2_
             have HO420 := n3_
             have HO423 := n4_
             have HO430 := n5_
             have HO438 := n6_
             have BK392 := n7_
             have BK424 := n8_
             have BK431 := n9_
             have HB := n10_
             clear n0_ n1_ n2_ n3_ n4_ n5_ n6_ n7_ n8_ n9_ n10_
             (try clear hb)
             (try clear hb2)
             (try clear hk)
             (try clear hi)
             refine hK.out _ _ ⟨(zq BK424.out 0).trans rfl, (zq BK424.out 1).trans rfl, (zq BK431.out 0).trans rfl, (zq BK431.out 1).trans rfl⟩ (fun hHeld => ?_)
             clear hK K
             refine norm_ (a' := ?_) ?_ ?_
             rotate_left
             ·show Act.put _ (some 105) _ = _
              simp only [Act.put, za, zc, zd, i64_w, i32_w]
              rfl
             refine pure_ (i := 28) (N := some 108) (v := ?_) (a' := ?_) tm69 rfl rfl (zA HT_.out (by kernel_rfl)) (fun _ _ _ h => h) (Or.inl ⟨by rfl, ?_⟩) ?_ ?_
             rotate_left
             ·intro w'
              go_simp
              with_reducible rfl
             rotate_left
             ·simp only [Act.put, za, zc, zd, i64_w, i32_w]
              rfl
             refine pure_ (i := 29) (N := some 109) (v := ?_) (a' := ?_) tm70 rfl rfl (zA HT_.out (by kernel_rfl)) (fun _ _ _ h => h) (Or.inl ⟨by rfl, ?_⟩) ?_ ?_
             rotate_left
             ·intro w'
              go_simp
              with_reducible rfl
             rotate_left
             ·simp only [Act.put, za, zc, zd, i64_w, i32_w]
              rfl
             refine pure_ (i := 30) (N := some 110) (v := ?_) (a' := ?_) tm71 rfl rfl (zA HT_.out (by kernel_rfl)) (fun _ _ _ h => h) (Or.inl ⟨by rfl, ?_⟩) ?_ ?_
             rotate_left
             ·intro w'
              go_simp
              with_reducible rfl
             rotate_left
             ·simp only [Act.put, za, zc, zd, i64_w, i32_w]
              rfl
             refine pure_ (i := 31) (N := some 111) (v := ?_) (a' := ?_) tm72 rfl rfl (zA HT_.out (by kernel_rfl)) (fun _ _ _ h => h) (Or.inl ⟨by rfl, ?_⟩) ?_ ?_
             rotate_left
             ·intro w'
              go_simp
              with_reducible rfl
             rotate_left
             ·simp only [Act.put, za, zc, zd, i64_w, i32_w]
              rfl
             refine pure_ (i := 32) (N := some 112) (v := ?_) (a' := ?_) tm73 rfl rfl (zA HT_.out (by kernel_rfl)) (fun _ _ _ h => h) (Or.inl ⟨by rfl, ?_⟩) ?_ ?_
             rotate_left
             ·intro w'
              go_simp
              with_reducible rfl
             rotate_left
             ·simp only [Act.put, za, zc, zd, i64_w, i32_w]
              rfl
             refine pure_ (i := 33) (N := some 113) (v := ?_) (a' := ?_) tm74 rfl rfl (zA HT_.out (by kernel_rfl)) (fun _ _ _ h => h) (Or.inl ⟨by rfl, ?_⟩) ?_ ?_
             rotate_left
             ·intro w'
              go_simp
              with_reducible rfl
             rotate_left
             ·simp only [Act.put, za, zc, zd, i64_w, i32_w]
              rfl
             refine pure_ (i := 34) (N := some 114) (v := ?_) (a' := ?_) tm75 rfl rfl (zA HT_.out (by kernel_rfl)) (fun _ _ _ h => h) (Or.inl ⟨by rfl, ?_⟩) ?_ ?_
             rotate_left
             ·intro w'
              go_simp
              with_reducible rfl
             rotate_left
             ·simp only [Act.put, za, zc, zd, i64_w, i32_w]
              rfl
             refine pure_ (i := 35) (N := some 115) (v := ?_) (a' := ?_) tm76 rfl rfl (zA HT_.out (by kernel_rfl)) (fun _ _ _ h => h) (Or.inl ⟨by rfl, ?_⟩) ?_ ?_
             rotate_left
             ·intro w'
              go_simp
              with_reducible rfl
             rotate_left
             ·simp only [Act.put, za, zc, zd, i64_w, i32_w]
              rfl
             refine pure_ (i := 37) (N := some 117) (v := ?_) (a' := ?_) tm77 rfl rfl (zA HT_.out (by kernel_rfl)) (fun _ _ _ h => h) (Or.inl ⟨by rfl, ?_⟩) ?_ ?_
             rotate_left
             ·intro w'
              go_simp
              with_reducible rfl
             rotate_left
             ·simp only [Act.put, za, zc, zd, i64_w, i32_w]
              rfl
             refine one_ (i := 36) (N := some 116) tm78 rfl rfl (one_of HT_.out (by kernel_rfl)) (by decide) (fun K hK => ?_)
             refine goes_ Try.func31 (by kernel_rfl) rfl #[.int .i64 3, .slice Ao79 t418.length co79] (by rfl) rfl rfl (by (try simp only [zt, zB, zC]); first | done | rfl | (simp only [zv, zu]; rfl)) ?_
             with_reducible refine (impl_TagOf.calls k2 3 _ _ t418 t441 _ ?side1 ?side2 A71.out).mono ?_
             (case side1 => repeat (first | exact (zl HO420.out).2.2 | (with_reducible refine zz ?_ _) | (with_reducible refine zx ?_ _) | (with_reducible refine zy ?_)))
             (case side2 => exact (zl HO420.out).2.1)
             rintro e w96 ⟨rfl, hb⟩
             refine ⟨_, rfl, ?_⟩
             have n0_ := zb (zh (by (with_reducible repeat (first | apply zf | apply ze | apply zg)); exact HO_6.out) hb)
             have n1_ := zb (zh (by (with_reducible repeat (first | apply zf | apply ze | apply zg)); exact HO_393000.out) hb)
             have n2_ := zb (zh (by (with_reducible repeat (first | apply zf | apply ze | apply zg)); exact HO416.out) hb)
             have n3_ := zb (zh (by (with_reducible repeat (first | apply zf | apply ze | apply zg)); exact HO420.out) hb)
             have n4_ := zb (zh (by (with_reducible repeat (first | apply zf | apply ze | apply zg)); exact HO423.out) hb)
             have n5_ := zb (zh (by (with_reducible repeat (first | apply zf | apply ze | apply zg)); exact HO430.out) hb)
             have n6_ := zb (zh (by (with_reducible repeat (first | apply zf | apply ze | apply zg)); exact HO438.out) hb)
             have n7_ := zb (zs (g := gb392) (o := .cells #[.slice Ao9 t385.length co9, .int .i64 t388] 37 (0, 0)) (by (with_reducible repeat (first | refine zm ?_ _ | refine zn ?_ | refine zo ?_ _)); exact BK392.out) hb)
             have n8_ := zb (zs (g := gb424) (o := .cells #[.slice Ao76 t414.length co76, .int .i64 t417] 37 (0, 0)) (by (with_reducible repeat (first | refine zm ?_ _ | refine zn ?_ | refine zo ?_ _)); exact BK424.out) hb)
             have n9_ := zb (zs (g := gb431) (o := .cells #[.int .i64 t426, .int .i64 t427] 46 (0, 0)) (by (with_reducible repeat (first | refine zm ?_ _ | refine zn ?_ | refine zo ?_ _)); exact BK431.out) hb)
             have n10_ := zb (zD (by repeat (first | (with_reducible first | exact HB.out | apply zp | apply zi | apply zk | refine zj ?_ GE392.out | refine zj ?_ GE424.out | refine zj ?_ GE431.out) | exact HB.out)) hb)
             clear HO_6
             clear HO_393000
             clear HO416
             clear HO420
             clear HO423
             clear HO430
             clear HO438
             clear BK392
             clear BK424
             clear BK431
             clear HB
             have HO_6 := n0_
             have HO_393000 := n1_
             have HO416 := n2_
             have HO420 := n3_
             have HO423 := n4_
             have HO430 := n5_
             have HO438 := n6_
             have BK392 := n7_
             have BK424 := n8_
             have BK431 := n9_
             have HB := n10_
             clear n0_ n1_ n2_ n3_ n4_ n5_ n6_ n7_ n8_ n9_ n10_
             (try clear hb)
             (try clear hb2)
             (try clear hk)
             (try clear hi)
             refine hK.out _ _ ⟨(zq BK424.out 0).trans rfl, (zq BK424.out 1).trans rfl, (zq BK431.out 0).trans rfl, (zq BK431.out 1).trans rfl⟩ (fun hHeld => ?_)
             clear hK K
             refine norm_ (a' := ?_) ?_ ?_
             rotate_left
             ·show Act.put _ (some 116) _ = _
              simp only [Act.put, za, zc, zd, i64_w, i32_w]
              rfl
             refine one_ (i := 38) (N := some 118) tm79 rfl rfl (one_of HT_.out (by kernel_rfl)) (by decide) (fun K hK => ?_)
             refine goes_ Try.func32 (by kernel_rfl) rfl #[.int .i64 3, .slice Ao79 t418.length co79] (by rfl) rfl rfl (by (try simp only [zt, zB, zC]); first | done | rfl | (simp only [zv, zu]; rfl)) ?_
             with_reducible refine (spec_TagOf.calls k2 3 _ _ t418 t442 _ ?side1 ?side2 A72.out).mono ?_
             (case side1 => repeat (first | exact (zl HO420.out).2.2 | (with_reducible refine zz ?_ _) | (with_reducible refine zx ?_ _) | (with_reducible refine zy ?_)))
             (case side2 => exact (zl HO420.out).2.1)
             rintro e w97 ⟨rfl, hb⟩
             refine ⟨_, rfl, ?_⟩
             have n0_ := zb (zh (by (with_reducible repeat (first | apply zf | apply ze | apply zg)); exact HO_6.out) hb)
             have n1_ := zb (zh (by (with_reducible repeat (first | apply zf | apply ze | apply zg)); exact HO_393000.out) hb)
             have n2_ := zb (zh (by (with_reducible repeat (first | apply zf | apply ze | apply zg)); exact HO416.out) hb)
             have n3_ := zb (zh (by (with_reducible repeat (first | apply zf | apply ze | apply zg)); exact HO420.out) hb)
             have n4_ := zb (zh (by (with_reducible repeat (first | apply zf | apply ze | apply zg)); exact HO423.out) hb)
             have n5_ := zb (zh (by (with_reducible repeat (first | apply zf | apply ze | apply zg)); exact HO430.out) hb)
             have n6_ := zb (zh (by (with_reducible repeat (first | apply zf | apply ze | apply zg)); exact HO438.out) hb)
             have n7_ := zb (zs (g := gb392) (o := .cells #[.slice Ao9 t385.length co9, .int .i64 t388] 37 (0, 0)) (by (with_reducible repeat (first | refine zm ?_ _ | refine zn ?_ | refine zo ?_ _)); exact BK392.out) hb)
             have n8_ := zb (zs (g := gb424) (o := .cells #[.slice Ao76 t414.length co76, .int .i64 t417] 37 (0, 0)) (by (with_reducible repeat (first | refine zm ?_ _ | refine zn ?_ | refine zo ?_ _)); exact BK424.out) hb)
             have n9_ := zb (zs (g := gb431) (o := .cells #[.int .i64 t426, .int .i64 t427] 46 (0, 0)) (by (with_reducible repeat (first | refine zm ?_ _ | refine zn ?_ | refine zo ?_ _)); exact BK431.out) hb)
             have n10_ := zb (zD (by repeat (first | (with_reducible first | exact HB.out | apply zp | apply zi | apply zk | refine zj ?_ GE392.out | refine zj ?_ GE424.out | refine zj ?_ GE431.out) | exact HB.out)) hb)
             clear HO_6
             clear HO_393000
             clear HO416
             clear HO420
             clear HO423
             clear HO430
             clear HO438
             clear BK392
             clear BK424
             clear BK431
             clear HB
             have HO_6 := n0_
             have HO_393000 := n1_
             have HO416 := n2_
             have HO420 := n3_
             have HO423 := n4_
             have HO430 := n5_
             have HO438 := n6_
             have BK392 := n7_
             have BK424 := n8_
             have BK431 := n9_
             have HB := n10_
             clear n0_ n1_ n2_ n3_ n4_ n5_ n6_ n7_ n8_ n9_ n10_
             (try clear hb)
             (try clear hb2)
             (try clear hk)
             (try clear hi)
             refine hK.out _ _ ⟨(zq BK424.out 0).trans rfl, (zq BK424.out 1).trans rfl, (zq BK431.out 0).trans rfl, (zq BK431.out 1).trans rfl⟩ (fun hHeld => ?_)
             clear hK K
             refine norm_ (a' := ?_) ?_ ?_
             rotate_left
             ·show Act.put _ (some 118) _ = _
              simp only [Act.put, za, zc, zd, i64_w, i32_w]
              rfl
             refine pure_ (i := 39) (N := some 119) (v := ?_) (a' := ?_) tm80 rfl rfl (zA HT_.out (by kernel_rfl)) (fun _ _ _ h => h) (Or.inl ⟨by rfl, ?_⟩) ?_ ?_
             rotate_left
             ·intro w'
              go_simp
              with_reducible rfl
             rotate_left
             ·simp only [Act.put, za, zc, zd, i64_w, i32_w]
              rfl
             refine pure_ (i := 40) (N := some 120) (v := ?_) (a' := ?_) tm81 rfl rfl (zA HT_.out (by kernel_rfl)) (fun _ _ _ h => h) (Or.inl ⟨by rfl, ?_⟩) ?_ ?_
             rotate_left
             ·intro w'
              go_simp
              with_reducible rfl
             rotate_left
             ·simp only [Act.put, za, zc, zd, i64_w, i32_w]
              rfl
             refine pure_ (i := 41) (N := some 2) (v := ?_) (a' := ?_) tm82 rfl rfl (zA HT_.out (by kernel_rfl)) (fun _ _ _ h => h) (Or.inl ⟨by rfl, ?_⟩) ?_ ?_
             rotate_left
             ·intro w'
              go_simp
              with_reducible rfl
             rotate_left
             ·simp only [Act.put, za, zc, zd, i64_w, i32_w]
              rfl
             refine done_ (done_of HT_.out (by kernel_rfl)) ?_
             try go_wp2
             go_ret
             exact ⟨by first | rfl | (simp [errW_none, errW_some] <;> rfl) | (simp [*, errW_none, errW_some] <;> rfl), by repeat (first | (with_reducible first | exact HB.out | apply zp | apply zi | apply zk | refine zj ?_ GE392.out | refine zj ?_ GE424.out | refine zj ?_ GE431.out) | exact HB.out)⟩
            ·rw [if_neg c70] at H
             have c70b0 : (t440 == (decide (t432 ≤ 99))) = false := by simpa using c70
             (try (have c70b1 : decide (t440 = (decide (t432 ≤ 99))) = false := by simpa using c70))
             (try (have c70b2 : (t440 == (decide (t432 ≤ 99))) = false := by simpa using c70))
             (try (have c70b3 : ¬ (t440 = (decide (t432 ≤ 99))) := by simpa using c70))
             clear c70
             exact absurd (za37 H) (by rw [hrt]; simp)
           ·rw [if_neg c69] at H
            have c69b0 : decide (1 ≤ t432) = false := za39 c69
            clear c69
            by_cases c121 : (t440 == false) = true
            ·rw [if_pos c121] at H
             have c121b0 : (t440 == false) = true := c121
             (try (have c121b1 : decide (t440 = false) = true := by simpa using c121))
             (try (have c121b2 : (t440 == false) = true := by simpa using c121))
             clear c121
             replace H := zr.mp H
             obtain ⟨t443, A1220, H⟩ := H
             replace H : ((spec_TagOf.f k2 3 t418).bind fun t444 => (some (t443 == t444))) = some r := H
             have A122 := zb A1220
             clear A1220
             replace H := zr.mp H
             obtain ⟨t444, A1230, H⟩ := H
             replace H : (some (t443 == t444)) = some r := H
             have A123 := zb A1230
             clear A1230
             obtain rfl := za37 H
             obtain ⟨Ao124, co124, eo124⟩ := Kd.R_slice HO_6.out
             subst eo124
             try go_wp2_with (first | ((with_reducible refine gate_callee (f := 23) rfl ?_); refine goesL_ (some 65) rfl rfl Try.func23 (by kernel_rfl) rfl #[.slice A0 l0.length c0] rfl (by (try simp only [zt, zB, zC]); first | done | rfl | (simp only [zv, zu]; rfl)) ?_; (with_reducible refine (spec_DrawCountSigs.calls k2 _ _ l0 t414 t417 t418 t421 _ ?side1 ?side2 A57.out).mono ?_); (case side1 => repeat (first | exact (za30 HR0.out HB.out) | (with_reducible refine zz ?_ _) | (with_reducible refine zx ?_ _) | (with_reducible refine zy ?_))); (case side2 => exact HC0.out); rintro e w125 ⟨v415, v419, v422, rfl, ho0, ho1, ho2, hb⟩; refine ⟨_, rfl, ?_⟩; have n0_ := zb (zE (by (with_reducible repeat (first | apply zf | apply ze | apply zg)); exact HO_6.out) (zI ho2) hb); have n1_ := zb (zw (Kd.R_told (Kd.R_told (Kd.R_old (by (with_reducible repeat (first | apply zf | apply ze | apply zg)); exact HO_393000.out) hb) (zI ho0)) (zI ho1)) (fun _ h_ => h_.1)); have n2_ := zb (za31 (zH ho0 (zJ (by (with_reducible repeat (first | apply zf | apply ze | apply zg)); exact HO_393000.out))) (zG (by repeat (first | (with_reducible first | exact HB.out | apply zp | apply zi | apply zk | refine zj ?_ GE392.out) | exact HB.out)))); have n3_ := zb (za31 (zH ho1 (zJ (by (with_reducible repeat (first | apply zf | apply ze | apply zg)); exact HO_393000.out))) (zG (by repeat (first | (with_reducible first | exact HB.out | apply zp | apply zi | apply zk | refine zj ?_ GE392.out) | exact HB.out)))); have n4_ := zb (za31 (zH ho2 (zJ (by (with_reducible repeat (first | apply zf | apply ze | apply zg)); exact HO_6.out))) (zG (by repeat (first | (with_reducible first | exact HB.out | apply zp | apply zi | apply zk | refine zj ?_ GE392.out) | exact HB.out)))); have n5_ := zb (zs (g := gb392) (o := .cells #[.slice Ao9 t385.length co9, .int .i64 t388] 37 (0, 0)) (by (with_reducible repeat (first | refine zm ?_ _ | refine zn ?_ | refine zo ?_ _)); exact BK392.out) hb); have n6_ := zb (zD (by repeat (first | (with_reducible first | exact HB.out | apply zp | apply zi | apply zk | refine zj ?_ GE392.out) | exact HB.out)) hb); clear HO_6; clear HO_393000; clear BK392; clear HB; have HO_6 := n0_; have HO_393000 := n1_; have HO416 := n2_; have HO420 := n3_; have HO423 := n4_; have BK392 := n5_; have HB := n6_; clear n0_ n1_ n2_ n3_ n4_ n5_ n6_; (try clear hb); (try clear hb2); (try clear hk); (try clear hi); (try clear ho0); (try clear ho1); (try clear ho2)) | ((with_reducible refine gate_dst (N := 8) rfl ?_); (try (refine gate_guard (by rfl) ?_; dsimp only)); refine box_event ?hg (N := 8) ?hd (cs := #[.slice none 0 0, .int .i64 0]) (t := 37) ?hr ?_; (case hd => rfl); (case hg => rfl); (case hr => first | (go_simp; done) | (go_simp; rfl)); intro gb424 hg w126 hbox hb; have n0_ := zb (zh (by (with_reducible repeat (first | apply zf | apply ze | apply zg)); exact HO_6.out) hb); have n1_ := zb (zh (by (with_reducible repeat (first | apply zf | apply ze | apply zg)); exact HO_393000.out) hb); have n2_ := zb (zh (by (with_reducible repeat (first | apply zf | apply ze | apply zg)); exact HO416.out) hb); have n3_ := zb (zh (by (with_reducible repeat (first | apply zf | apply ze | apply zg)); exact HO420.out) hb); have n4_ := zb (zh (by (with_reducible repeat (first | apply zf | apply ze | apply zg)); exact HO423.out) hb); have n5_ := zb (zs (g := gb392) (o := .cells #[.slice Ao9 t385.length co9, .int .i64 t388] 37 (0, 0)) (by (with_reducible repeat (first | refine zm ?_ _ | refine zn ?_ | refine zo ?_ _)); exact BK392.out) hb); have n6_ := zb (zD (by repeat (first | (with_reducible first | exact HB.out | apply zp | apply zi | apply zk | refine zj ?_ GE392.out) | exact HB.out)) hb); have n7_ := zb (hbox); have n8_ := zb ((by rw [hg]; exact (zG (by repeat (first | (with_reducible first | exact HB.out | apply zp | apply zi | apply zk | refine zj ?_ GE392.out) | exact HB.out))) : w.heap.size ≤ gb424)); have n9_ := zb ((by rw [hg]; exact (zG (by repeat (first | (with_reducible first | exact HB.out | apply zp | apply zi | apply zk | refine zj ?_ GE392.out) | exact HB.out))) : w.heap.size ≤ gb424)); have n10_ := zb ((by rw [hg]; exact Nat.ne_of_lt (blk_lt (g := gb392) (o := .cells #[.slice Ao9 t385.length co9, .int .i64 t388] 37 (0, 0)) (by (with_reducible repeat (first | refine zm ?_ _ | refine zn ?_ | refine zo ?_ _)); exact BK392.out)) : gb392 ≠ gb424)); have n11_ := zb ((by rw [hg]; exact Nat.ne_of_gt (blk_lt (g := gb392) (o := .cells #[.slice Ao9 t385.length co9, .int .i64 t388] 37 (0, 0)) (by (with_reducible repeat (first | refine zm ?_ _ | refine zn ?_ | refine zo ?_ _)); exact BK392.out)) : gb424 ≠ gb392)); clear HO_6; clear HO_393000; clear HO416; clear HO420; clear HO423; clear BK392; clear HB; have HO_6 := n0_; have HO_393000 := n1_; have HO416 := n2_; have HO420 := n3_; have HO423 := n4_; have BK392 := n5_; have HB := n6_; have BK424 := n7_; have GW424 := n8_; have GE424 := n9_; have NB392_424 := n10_; have NB424_392 := n11_; clear n0_ n1_ n2_ n3_ n4_ n5_ n6_ n7_ n8_ n9_ n10_ n11_; clear hb hbox hg; obtain ⟨Ao127, co127, eo127⟩ := Kd.R_slice HO416.out; subst eo127; have hnb128 := NB424_392.out; have hnc128 := NB392_424.out; have hcz129_0 : w126.cell? ⟨gb424, 0, none⟩ = some (.slice none 0 0) := (zq BK424.out 0).trans rfl; have hcz129_1 : w126.cell? ⟨gb424, 1, none⟩ = some (.int .i64 0) := (zq BK424.out 1).trans rfl; have hfz129_0 := blk_frozen BK424.out 0; have hfz129_1 := blk_frozen BK424.out 1; obtain ⟨Ao130, co130, eo130⟩ := Kd.R_slice HO420.out; subst eo130; obtain ⟨Ao131, co131, eo131⟩ := Kd.R_slice HO423.out; subst eo131) | ((with_reducible refine gate_callee (f := 24) rfl ?_); refine goesL_ (some 72) rfl rfl Try.func24 (by kernel_rfl) rfl #[.agg #[.slice Ao127 t414.length co127, .int .i64 t417], .slice Ao130 t418.length co130, .slice Ao131 t421.length co131] rfl (by (try simp only [zt, zB, zC]); first | done | rfl | (simp only [zv, zu]; rfl)) ?_; (with_reducible refine (impl_CountSigs.calls k2 _ _ t414 t417 _ _ t418 _ _ t421 t425 _ ?side1 ?side2 ?side3 ?side4 ?side5 ?side6 A58.out).mono ?_); (case side1 => refine (zl (e := 3) (base := w.heap.size) (ok := fun k_ => (some k_ ≠ (.slice Ao130 t418.length co130 : Value).ownBlock ∧ some k_ ≠ (.slice Ao9 t385.length co9 : Value).ownBlock)) (n := t414.length) (c := co127) ?_).2.2; exact (by (with_reducible repeat (first | apply zf | apply ze | apply zg)); exact (zw (zF (p := ⟨gb424, 1, none⟩) (zF (p := ⟨gb424, 0, none⟩) (zK HO416.out BK424.out (by decide)) (fun _ hk => hk.2) (.slice Ao127 t414.length co127)) (fun _ hk => hk.2) (.int .i64 t417)) (fun _ h_ => h_.1)))); (case side2 => exact (zl HO416.out).2.1); (case side3 => refine (zl (e := 3) (base := w.heap.size) (ok := fun k_ => (some k_ ≠ (.slice Ao127 t414.length co127 : Value).ownBlock ∧ some k_ ≠ (.slice Ao9 t385.length co9 : Value).ownBlock)) (n := t418.length) (c := co130) ?_).2.2; exact (by (with_reducible repeat (first | apply zf | apply ze | apply zg)); exact (zw (zF (p := ⟨gb424, 1, none⟩) (zF (p := ⟨gb424, 0, none⟩) (zK HO420.out BK424.out (by decide)) (fun _ hk => hk.2) (.slice Ao127 t414.length co127)) (fun _ hk => hk.2) (.int .i64 t417)) (fun _ h_ => h_.1)))); (case side4 => exact (zl HO420.out).2.1); (case side5 => refine (zl (e := 46) (base := w.heap.size) (ok := fun k_ => (True ∧ some k_ ≠ (.slice Ao124 t393.length co124 : Value).ownBlock)) (n := t421.length) (c := co131) ?_).2.2; exact (by (with_reducible repeat (first | apply zf | apply ze | apply zg)); exact (zw (zF (p := ⟨gb424, 1, none⟩) (zF (p := ⟨gb424, 0, none⟩) (zK HO423.out BK424.out (by decide)) (fun _ hk => hk.2) (.slice Ao127 t414.length co127)) (fun _ hk => hk.2) (.int .i64 t417)) (fun _ h_ => h_.1)))); (case side6 => exact (zl HO423.out).2.1); rintro e w132 ⟨rfl, hb⟩; refine ⟨_, rfl, ?_⟩; have n0_ := zb (zh (by (with_reducible repeat (first | apply zf | apply ze | apply zg)); exact (zw (zF (p := ⟨gb424, 1, none⟩) (zF (p := ⟨gb424, 0, none⟩) (zK HO_6.out BK424.out (by decide)) (fun _ hk => hk.2) (.slice Ao127 t414.length co127)) (fun _ hk => hk.2) (.int .i64 t417)) (fun _ h_ => h_.1))) hb); have n1_ := zb (zh (by (with_reducible repeat (first | apply zf | apply ze | apply zg)); exact (zw (zF (p := ⟨gb424, 1, none⟩) (zF (p := ⟨gb424, 0, none⟩) (zK HO_393000.out BK424.out (by decide)) (fun _ hk => hk.2) (.slice Ao127 t414.length co127)) (fun _ hk => hk.2) (.int .i64 t417)) (fun _ h_ => h_.1))) hb); have n2_ := zb (zh (by (with_reducible repeat (first | apply zf | apply ze | apply zg)); exact (zw (zF (p := ⟨gb424, 1, none⟩) (zF (p := ⟨gb424, 0, none⟩) (zK HO416.out BK424.out (by decide)) (fun _ hk => hk.2) (.slice Ao127 t414.length co127)) (fun _ hk => hk.2) (.int .i64 t417)) (fun _ h_ => h_.1))) hb); have n3_ := zb (zh (by (with_reducible repeat (first | apply zf | apply ze | apply zg)); exact (zw (zF (p := ⟨gb424, 1, none⟩) (zF (p := ⟨gb424, 0, none⟩) (zK HO420.out BK424.out (by decide)) (fun _ hk => hk.2) (.slice Ao127 t414.length co127)) (fun _ hk => hk.2) (.int .i64 t417)) (fun _ h_ => h_.1))) hb); have n4_ := zb (zh (by (with_reducible repeat (first | apply zf | apply ze | apply zg)); exact (zw (zF (p := ⟨gb424, 1, none⟩) (zF (p := ⟨gb424, 0, none⟩) (zK HO423.out BK424.out (by decide)) (fun _ hk => hk.2) (.slice Ao127 t414.length co127)) (fun _ hk => hk.2) (.int .i64 t417)) (fun _ h_ => h_.1))) hb); have n5_ := zb (zs (g := gb392) (o := .cells #[.slice Ao9 t385.length co9, .int .i64 t388] 37 (0, 0)) (by (with_reducible repeat (first | refine zm ?_ _ | refine zn ?_ | refine zo ?_ _)); refine blk_far ?_ NB392_424.out _; (with_reducible repeat (first | refine zm ?_ _ | refine zn ?_ | refine zo ?_ _)); refine blk_far ?_ NB392_424.out _; (with_reducible repeat (first | refine zm ?_ _ | refine zn ?_ | refine zo ?_ _)); exact BK392.out) hb); have n6_ := zb (zs (g := gb424) (o := .cells #[.slice Ao127 t414.length co127, .int .i64 t417] 37 (0, 0)) (by (with_reducible repeat (first | refine zm ?_ _ | refine zn ?_ | refine zo ?_ _)); refine blk_put (cs := #[.slice Ao127 t414.length co127, .int .i64 0]) ?_ 1 _ rfl; (with_reducible repeat (first | refine zm ?_ _ | refine zn ?_ | refine zo ?_ _)); refine blk_put (cs := #[.slice none 0 0, .int .i64 0]) ?_ 0 _ rfl; (with_reducible repeat (first | refine zm ?_ _ | refine zn ?_ | refine zo ?_ _)); exact BK424.out) hb); have n7_ := zb (zD (by repeat (first | (with_reducible first | exact HB.out | apply zp | apply zi | apply zk | refine zj ?_ GE392.out | refine zj ?_ GE424.out) | exact HB.out)) hb); clear HO_6; clear HO_393000; clear HO416; clear HO420; clear HO423; clear BK392; clear BK424; clear HB; have HO_6 := n0_; have HO_393000 := n1_; have HO416 := n2_; have HO420 := n3_; have HO423 := n4_; have BK392 := n5_; have BK424 := n6_; have HB := n7_; clear n0_ n1_ n2_ n3_ n4_ n5_ n6_ n7_; (try clear hb); (try clear hb2); (try clear hk); (try clear hi)) | ((with_reducible refine gate_callee (f := 25) rfl ?_); refine goesL_ (some 75) rfl rfl Try.func25 (by kernel_rfl) rfl #[.slice A0 l0.length c0] rfl (by (try simp only [zt, zB, zC]); first | done | rfl | (simp only [zv, zu]; rfl)) ?_; (with_reducible refine (spec_DrawIsSigBy.calls k2 _ _ l0 t426 t427 t428 _ ?side1 ?side2 A59.out).mono ?_); (case side1 => repeat (first | exact (za30 HR0.out HB.out) | (with_reducible refine zz ?_ _) | (with_reducible refine zx ?_ _) | (with_reducible refine zy ?_))); (case side2 => exact HC0.out); rintro e w133 ⟨v429, rfl, ho0, hb⟩; refine ⟨_, rfl, ?_⟩; have n0_ := zb (zh (by (with_reducible repeat (first | apply zf | apply ze | apply zg)); exact HO_6.out) hb); have n1_ := zb (zE (by (with_reducible repeat (first | apply zf | apply ze | apply zg)); exact HO_393000.out) (zI ho0) hb); have n2_ := zb (zE (by (with_reducible repeat (first | apply zf | apply ze | apply zg)); exact HO416.out) (zI ho0) hb); have n3_ := zb (zE (by (with_reducible repeat (first | apply zf | apply ze | apply zg)); exact HO420.out) (zI ho0) hb); have n4_ := zb (zh (by (with_reducible repeat (first | apply zf | apply ze | apply zg)); exact HO423.out) hb); have n5_ := zb (za31 (zH (zH (zH ho0 (zJ (by (with_reducible repeat (first | apply zf | apply ze | apply zg)); exact HO_393000.out))) (zJ (by (with_reducible repeat (first | apply zf | apply ze | apply zg)); exact HO416.out))) (zJ (by (with_reducible repeat (first | apply zf | apply ze | apply zg)); exact HO420.out))) (zG (by repeat (first | (with_reducible first | exact HB.out | apply zp | apply zi | apply zk | refine zj ?_ GE392.out | refine zj ?_ GE424.out) | exact HB.out)))); have n6_ := zb (zs (g := gb392) (o := .cells #[.slice Ao9 t385.length co9, .int .i64 t388] 37 (0, 0)) (by (with_reducible repeat (first | refine zm ?_ _ | refine zn ?_ | refine zo ?_ _)); exact BK392.out) hb); have n7_ := zb (zs (g := gb424) (o := .cells #[.slice Ao127 t414.length co127, .int .i64 t417] 37 (0, 0)) (by (with_reducible repeat (first | refine zm ?_ _ | refine zn ?_ | refine zo ?_ _)); exact BK424.out) hb); have n8_ := zb (zD (by repeat (first | (with_reducible first | exact HB.out | apply zp | apply zi | apply zk | refine zj ?_ GE392.out | refine zj ?_ GE424.out) | exact HB.out)) hb); clear HO_6; clear HO_393000; clear HO416; clear HO420; clear HO423; clear BK392; clear BK424; clear HB; have HO_6 := n0_; have HO_393000 := n1_; have HO416 := n2_; have HO420 := n3_; have HO423 := n4_; have HO430 := n5_; have BK392 := n6_; have BK424 := n7_; have HB := n8_; clear n0_ n1_ n2_ n3_ n4_ n5_ n6_ n7_ n8_; (try clear hb); (try clear hb2); (try clear hk); (try clear hi); (try clear ho0)) | ((with_reducible refine gate_dst (N := 12) rfl ?_); (try (refine gate_guard (by rfl) ?_; dsimp only)); refine box_event ?hg (N := 12) ?hd (cs := #[.int .i64 0, .int .i64 0]) (t := 46) ?hr ?_; (case hd => rfl); (case hg => rfl); (case hr => first | (go_simp; done) | (go_simp; rfl)); intro gb431 hg w134 hbox hb; have n0_ := zb (zh (Kd.R_elderB (by (with_reducible repeat (first | apply zf | apply ze | apply zg)); exact HO_6.out) gb431 (Nat.le_of_eq hg.symm)) hb); have n1_ := zb (zh (by (with_reducible repeat (first | apply zf | apply ze | apply zg)); exact HO_393000.out) hb); have n2_ := zb (zh (by (with_reducible repeat (first | apply zf | apply ze | apply zg)); exact HO416.out) hb); have n3_ := zb (zh (by (with_reducible repeat (first | apply zf | apply ze | apply zg)); exact HO420.out) hb); have n4_ := zb (zh (Kd.R_elderB (by (with_reducible repeat (first | apply zf | apply ze | apply zg)); exact HO423.out) gb431 (Nat.le_of_eq hg.symm)) hb); have n5_ := zb (zh (by (with_reducible repeat (first | apply zf | apply ze | apply zg)); exact HO430.out) hb); have n6_ := zb (zs (g := gb392) (o := .cells #[.slice Ao9 t385.length co9, .int .i64 t388] 37 (0, 0)) (by (with_reducible repeat (first | refine zm ?_ _ | refine zn ?_ | refine zo ?_ _)); exact BK392.out) hb); have n7_ := zb (zs (g := gb424) (o := .cells #[.slice Ao127 t414.length co127, .int .i64 t417] 37 (0, 0)) (by (with_reducible repeat (first | refine zm ?_ _ | refine zn ?_ | refine zo ?_ _)); exact BK424.out) hb); have n8_ := zb (zD (by repeat (first | (with_reducible first | exact HB.out | apply zp | apply zi | apply zk | refine zj ?_ GE392.out | refine zj ?_ GE424.out) | exact HB.out)) hb); have n9_ := zb (hbox); have n10_ := zb ((by rw [hg]; exact (zG (by repeat (first | (with_reducible first | exact HB.out | apply zp | apply zi | apply zk | refine zj ?_ GE392.out | refine zj ?_ GE424.out) | exact HB.out))) : w.heap.size ≤ gb431)); have n11_ := zb ((by rw [hg]; exact (zG (by repeat (first | (with_reducible first | exact HB.out | apply zp | apply zi | apply zk | refine zj ?_ GE392.out | refine zj ?_ GE424.out) | exact HB.out))) : w.heap.size ≤ gb431)); have n12_ := zb ((by rw [hg]; exact Nat.ne_of_lt (blk_lt (g := gb392) (o := .cells #[.slice Ao9 t385.length co9, .int .i64 t388] 37 (0, 0)) (by (with_reducible repeat (first | refine zm ?_ _ | refine zn ?_ | refine zo ?_ _)); exact BK392.out)) : gb392 ≠ gb431)); have n13_ := zb ((by rw [hg]; exact Nat.ne_of_gt (blk_lt (g := gb392) (o := .cells #[.slice Ao9 t385.length co9, .int .i64 t388] 37 (0, 0)) (by (with_reducible repeat (first | refine zm ?_ _ | refine zn ?_ | refine zo ?_ _)); exact BK392.out)) : gb431 ≠ gb392)); have n14_ := zb ((by rw [hg]; exact Nat.ne_of_lt (blk_lt (g := gb424) (o := .cells #[.slice Ao127 t414.length co127, .int .i64 t417] 37 (0, 0)) (by (with_reducible repeat (first | refine zm ?_ _ | refine zn ?_ | refine zo ?_ _)); exact BK424.out)) : gb424 ≠ gb431)); have n15_ := zb ((by rw [hg]; exact Nat.ne_of_gt (blk_lt (g := gb424) (o := .cells #[.slice Ao127 t414.length co127, .int .i64 t417] 37 (0, 0)) (by (with_reducible repeat (first | refine zm ?_ _ | refine zn ?_ | refine zo ?_ _)); exact BK424.out)) : gb431 ≠ gb424)); clear HO_6; clear HO_393000; clear HO416; clear HO420; clear HO423; clear HO430; clear BK392; clear BK424; clear HB; have HO_6 := n0_; have HO_393000 := n1_; have HO416 := n2_; have HO420 := n3_; have HO423 := n4_; have HO430 := n5_; have BK392 := n6_; have BK424 := n7_; have HB := n8_; have BK431 := n9_; have GW431 := n10_; have GE431 := n11_; have NB392_431 := n12_; have NB431_392 := n13_; have NB424_431 := n14_; have NB431_424 := n15_; clear n0_ n1_ n2_ n3_ n4_ n5_ n6_ n7_ n8_ n9_ n10_ n11_ n12_ n13_ n14_ n15_; clear hb hbox hg; have hnb135 := NB431_392.out; have hnc135 := NB392_431.out; have hnb136 := NB431_424.out; have hnc136 := NB424_431.out; have hcz137_0 : w134.cell? ⟨gb431, 0, none⟩ = some (.int .i64 0) := (zq BK431.out 0).trans rfl; have hcz137_1 : w134.cell? ⟨gb431, 1, none⟩ = some (.int .i64 0) := (zq BK431.out 1).trans rfl; have hfz137_0 := blk_frozen BK431.out 0; have hfz137_1 := blk_frozen BK431.out 1) | ((with_reducible refine gate_callee (f := 26) rfl ?_); refine goesL_ (some 79) rfl rfl Try.func26 (by kernel_rfl) rfl #[.slice A0 l0.length c0] rfl (by (try simp only [zt, zB, zC]); first | done | rfl | (simp only [zv, zu]; rfl)) ?_; (with_reducible refine (spec_DrawOneKey.calls k2 _ _ l0 t432 _ ?side1 ?side2 A60.out).mono ?_); (case side1 => exact za30 HR0.out (by repeat (first | (with_reducible first | exact HB.out | apply zp | apply zi | apply zk | refine zj ?_ GE392.out | refine zj ?_ GE424.out | refine zj ?_ GE431.out) | exact HB.out))); (case side2 => exact HC0.out); rintro e w138 ⟨rfl, hb⟩; refine ⟨_, rfl, ?_⟩; have n0_ := zb (zh (by (with_reducible repeat (first | apply zf | apply ze | apply zg)); exact (zw (zF (p := ⟨gb431, 1, none⟩) (zF (p := ⟨gb431, 0, none⟩) (zw HO_6.out (fun k_ hk => (⟨hk, hk.2⟩ : _ ∧ k_ ≠ gb431))) (fun _ hk => hk.2) (.int .i64 t426)) (fun _ hk => hk.2) (.int .i64 t427)) (fun _ h_ => h_.1))) hb); have n1_ := zb (zh (by (with_reducible repeat (first | apply zf | apply ze | apply zg)); exact (zw (zF (p := ⟨gb431, 1, none⟩) (zF (p := ⟨gb431, 0, none⟩) (zK HO_393000.out BK431.out (by decide)) (fun _ hk => hk.2) (.int .i64 t426)) (fun _ hk => hk.2) (.int .i64 t427)) (fun _ h_ => h_.1))) hb); have n2_ := zb (zh (by (with_reducible repeat (first | apply zf | apply ze | apply zg)); exact (zw (zF (p := ⟨gb431, 1, none⟩) (zF (p := ⟨gb431, 0, none⟩) (zK HO416.out BK431.out (by decide)) (fun _ hk => hk.2) (.int .i64 t426)) (fun _ hk => hk.2) (.int .i64 t427)) (fun _ h_ => h_.1))) hb); have n3_ := zb (zh (by (with_reducible repeat (first | apply zf | apply ze | apply zg)); exact (zw (zF (p := ⟨gb431, 1, none⟩) (zF (p := ⟨gb431, 0, none⟩) (zK HO420.out BK431.out (by decide)) (fun _ hk => hk.2) (.int .i64 t426)) (fun _ hk => hk.2) (.int .i64 t427)) (fun _ h_ => h_.1))) hb); have n4_ := zb (zh (by (with_reducible repeat (first | apply zf | apply ze | apply zg)); exact (zw (zF (p := ⟨gb431, 1, none⟩) (zF (p := ⟨gb431, 0, none⟩) (zw HO423.out (fun k_ hk => (⟨hk, hk.2⟩ : _ ∧ k_ ≠ gb431))) (fun _ hk => hk.2) (.int .i64 t426)) (fun _ hk => hk.2) (.int .i64 t427)) (fun _ h_ => h_.1))) hb); have n5_ := zb (zh (by (with_reducible repeat (first | apply zf | apply ze | apply zg)); exact (zw (zF (p := ⟨gb431, 1, none⟩) (zF (p := ⟨gb431, 0, none⟩) (zK HO430.out BK431.out (by decide)) (fun _ hk => hk.2) (.int .i64 t426)) (fun _ hk => hk.2) (.int .i64 t427)) (fun _ h_ => h_.1))) hb); have n6_ := zb (zs (g := gb392) (o := .cells #[.slice Ao9 t385.length co9, .int .i64 t388] 37 (0, 0)) (by (with_reducible repeat (first | refine zm ?_ _ | refine zn ?_ | refine zo ?_ _)); refine blk_far ?_ NB392_431.out _; (with_reducible repeat (first | refine zm ?_ _ | refine zn ?_ | refine zo ?_ _)); refine blk_far ?_ NB392_431.out _; (with_reducible repeat (first | refine zm ?_ _ | refine zn ?_ | refine zo ?_ _)); exact BK392.out) hb); have n7_ := zb (zs (g := gb424) (o := .cells #[.slice Ao127 t414.length co127, .int .i64 t417] 37 (0, 0)) (by (with_reducible repeat (first | refine zm ?_ _ | refine zn ?_ | refine zo ?_ _)); refine blk_far ?_ NB424_431.out _; (with_reducible repeat (first | refine zm ?_ _ | refine zn ?_ | refine zo ?_ _)); refine blk_far ?_ NB424_431.out _; (with_reducible repeat (first | refine zm ?_ _ | refine zn ?_ | refine zo ?_ _)); exact BK424.out) hb); have n8_ := zb (zs (g := gb431) (o := .cells #[.int .i64 t426, .int .i64 t427] 46 (0, 0)) (by (with_reducible repeat (first | refine zm ?_ _ | refine zn ?_ | refine zo ?_ _)); refine blk_put (cs := #[.int .i64 t426, .int .i64 0]) ?_ 1 _ rfl; (with_reducible repeat (first | refine zm ?_ _ | refine zn ?_ | refine zo ?_ _)); refine blk_put (cs := #[.int .i64 0, .int .i64 0]) ?_ 0 _ rfl; (with_reducible repeat (first | refine zm ?_ _ | refine zn ?_ | refine zo ?_ _)); exact BK431.out) hb); have n9_ := zb (zD (by repeat (first | (with_reducible first | exact HB.out | apply zp | apply zi | apply zk | refine zj ?_ GE392.out | refine zj ?_ GE424.out | refine zj ?_ GE431.out) | exact HB.out)) hb); clear HO_6; clear HO_393000; clear HO416; clear HO420; clear HO423; clear HO430; clear BK392; clear BK424; clear BK431; clear HB; have HO_6 := n0_; have HO_393000 := n1_; have HO416 := n2_; have HO420 := n3_; have HO423 := n4_; have HO430 := n5_; have BK392 := n6_; have BK424 := n7_; have BK431 := n8_; have HB := n9_; clear n0_ n1_ n2_ n3_ n4_ n5_ n6_ n7_ n8_ n9_; (try clear hb); (try clear hb2); (try clear hk); (try clear hi)))
             have n0_ := zb (zg HO_6.out)
             have n1_ := zb (zg HO_393000.out)
             have n2_ := zb (zg HO416.out)
             have n3_ := zb (zg HO420.out)
             have n4_ := zb (zg HO423.out)
             have n5_ := zb (zg HO430.out)
             have n6_ := zb (zn BK392.out)
             have n7_ := zb (zn BK424.out)
             have n8_ := zb (zn BK431.out)
             have n9_ := zb (zk HB.out)
             clear HO_6
             clear HO_393000
             clear HO416
             clear HO420
             clear HO423
             clear HO430
             clear BK392
             clear BK424
             clear BK431
             clear HB
             have HO_6 := n0_
             have HO_393000 := n1_
             have HO416 := n2_
             have HO420 := n3_
             have HO423 := n4_
             have HO430 := n5_
             have BK392 := n6_
             have BK424 := n7_
             have BK431 := n8_
             have HB := n9_
             clear n0_ n1_ n2_ n3_ n4_ n5_ n6_ n7_ n8_ n9_
             refine start_ (n := 42) (S := fun w' => w'.cell? ⟨gb424, 0, none⟩ = some (.slice Ao127 t414.length co127) ∧ w'.cell? ⟨gb424, 1, none⟩ = some (.int .i64 t417) ∧ w'.cell? ⟨gb431, 0, none⟩ = some (.int .i64 t426) ∧ w'.cell? ⟨gb431, 1, none⟩ = some (.int .i64 t427)) (ds := []) tm40 (by kernel_rfl) rfl rfl ⟨(zq BK424.out 0).trans rfl, (zq BK424.out 1).trans rfl, (zq BK431.out 0).trans rfl, (zq BK431.out 1).trans rfl⟩ (fun hHeld => ?_); refine with_tabW laws_FnThresholds.tab16 laws_FnThresholds.bits16 (fun HT_ HW_ => ?_)
             generalize w138.drew = w139 at HO_6 HO_393000 HO416 HO420 HO423 HO430 BK392 BK424 BK431 HB hHeld ⊢
             refine pure_ (i := 0) (N := some 80) (v := ?_) (a' := ?_) tm41 rfl rfl (zA HT_.out (by kernel_rfl)) (fun _ _ _ h => h) (Or.inl ⟨by rfl, ?_⟩) ?_ ?_
             rotate_left
             ·intro w'
              go_simp
              with_reducible rfl
             rotate_left
             ·simp only [Act.put, za, zc, zd, i64_w, i32_w]
              rfl
             refine pure_ (i := 2) (N := some 82) (v := ?_) (a' := ?_) tm42 rfl rfl (zA HT_.out (by kernel_rfl)) (fun _ _ _ h => h) (Or.inl ⟨by rfl, ?_⟩) ?_ ?_
             rotate_left
             ·intro w'
              go_simp
              with_reducible rfl
             rotate_left
             ·simp only [Act.put, za, zc, zd, i64_w, i32_w]
              rfl
             refine pure_ (i := 3) (N := some 83) (v := ?_) (a' := ?_) tm43 rfl rfl (zA HT_.out (by kernel_rfl)) (fun _ _ _ h => h) (Or.inl ⟨by rfl, ?_⟩) ?_ ?_
             rotate_left
             ·intro w'
              go_simp
              with_reducible rfl
             rotate_left
             ·simp only [Act.put, za, zc, zd, i64_w, i32_w]
              rfl
             refine take_ (i := 1) (N := some 81) (v := ?_) (a' := ?_) tm44 rfl rfl (take_ofW HT_.out HW_.out (by kernel_rfl)) (fun _ _ _ h => h) (Or.inl ⟨by rfl, ?_⟩) hHeld ?_ ?_
             rotate_left
             ·rintro w' ⟨s0, s1, s2, s3⟩
              go_simp
              with_reducible rfl
             rotate_left
             ·simp only [Act.put, za, zc, zd, i64_w, i32_w]
              rfl
             refine one_ (i := 4) (N := some 84) tm45 rfl rfl (one_of HT_.out (by kernel_rfl)) (by decide) (fun K hK => ?_)
             refine goes_ Try.func27 (by kernel_rfl) rfl #[.agg #[.slice Ao127 t414.length co127, .int .i64 t417], .slice Ao130 t418.length co130, .slice Ao131 t421.length co131] (by rfl) rfl rfl (by (try simp only [zt, zB, zC]); first | done | rfl | (simp only [zv, zu]; rfl)) ?_
             with_reducible refine (spec_CountSigs.calls k2 _ _ t414 t417 _ _ t418 _ _ t421 t433 _ ?side1 ?side2 ?side3 ?side4 ?side5 ?side6 A61.out).mono ?_
             (case side1 => repeat (first | exact (zl HO416.out).2.2 | (with_reducible refine zz ?_ _) | (with_reducible refine zx ?_ _) | (with_reducible refine zy ?_)))
             (case side2 => exact (zl HO416.out).2.1)
             (case side3 => repeat (first | exact (zl HO420.out).2.2 | (with_reducible refine zz ?_ _) | (with_reducible refine zx ?_ _) | (with_reducible refine zy ?_)))
             (case side4 => exact (zl HO420.out).2.1)
             (case side5 => repeat (first | exact (zl HO423.out).2.2 | (with_reducible refine zz ?_ _) | (with_reducible refine zx ?_ _) | (with_reducible refine zy ?_)))
             (case side6 => exact (zl HO423.out).2.1)
             rintro e w140 ⟨rfl, hb⟩
             refine ⟨_, rfl, ?_⟩
             have n0_ := zb (zh (by (with_reducible repeat (first | apply zf | apply ze | apply zg)); exact HO_6.out) hb)
             have n1_ := zb (zh (by (with_reducible repeat (first | apply zf | apply ze | apply zg)); exact HO_393000.out) hb)
             have n2_ := zb (zh (by (with_reducible repeat (first | apply zf | apply ze | apply zg)); exact HO416.out) hb)
             have n3_ := zb (zh (by (with_reducible repeat (first | apply zf | apply ze | apply zg)); exact HO420.out) hb)
             have n4_ := zb (zh (by (with_reducible repeat (first | apply zf | apply ze | apply zg)); exact HO423.out) hb)
             have n5_ := zb (zh (by (with_reducible repeat (first | apply zf | apply ze | apply zg)); exact HO430.out) hb)
             have n6_ := zb (zs (g := gb392) (o := .cells #[.slice Ao9 t385.length co9, .int .i64 t388] 37 (0, 0)) (by (with_reducible repeat (first | refine zm ?_ _ | refine zn ?_ | refine zo ?_ _)); exact BK392.out) hb)
             have n7_ := zb (zs (g := gb424) (o := .cells #[.slice Ao127 t414.length co127, .int .i64 t417] 37 (0, 0)) (by (with_reducible repeat (first | refine zm ?_ _ | refine zn ?_ | refine zo ?_ _)); exact BK424.out) hb)
             have n8_ := zb (zs (g := gb431) (o := .cells #[.int .i64 t426, .int .i64 t427] 46 (0, 0)) (by (with_reducible repeat (first | refine zm ?_ _ | refine zn ?_ | refine zo ?_ _)); exact BK431.out) hb)
             have n9_ := zb (zD (by repeat (first | (with_reducible first | exact HB.out | apply zp | apply zi | apply zk | refine zj ?_ GE392.out | refine zj ?_ GE424.out | refine zj ?_ GE431.out) | exact HB.out)) hb)
             clear HO_6
             clear HO_393000
             clear HO416
             clear HO420
             clear HO423
             clear HO430
             clear BK392
             clear BK424
             clear BK431
             clear HB
             have HO_6 := n0_
             have HO_393000 := n1_
             have HO416 := n2_
             have HO420 := n3_
             have HO423 := n4_
             have HO430 := n5_
             have BK392 := n6_
             have BK424 := n7_
             have BK431 := n8_
             have HB := n9_
             clear n0_ n1_ n2_ n3_ n4_ n5_ n6_ n7_ n8_ n9_
             (try clear hb)
             (try clear hb2)
             (try clear hk)
             (try clear hi)
             obtain ⟨Ao141, co141, eo141⟩ := Kd.R_slice HO430.out
             (first | subst eo141 | (injection eo141 with f1_ f2_ f3_; have f4_ := f1_.symm; have f5_ := f3_.symm; clear f1_ f2_ f3_; subst f4_; subst f5_))
             refine hK.out _ _ ⟨(zq BK424.out 0).trans rfl, (zq BK424.out 1).trans rfl, (zq BK431.out 0).trans rfl, (zq BK431.out 1).trans rfl⟩ (fun hHeld => ?_)
             clear hK K
             refine norm_ (a' := ?_) ?_ ?_
             rotate_left
             ·show Act.put _ (some 84) _ = _
              simp only [Act.put, za, zc, zd, i64_w, i32_w]
              rfl
             refine pure_ (i := 5) (N := some 85) (v := ?_) (a' := ?_) tm46 rfl rfl (zA HT_.out (by kernel_rfl)) (fun _ _ _ h => h) (Or.inl ⟨by rfl, ?_⟩) ?_ ?_
             rotate_left
             ·intro w'
              go_simp
              with_reducible rfl
             rotate_left
             ·simp only [Act.put, za, zc, zd, i64_w, i32_w]
              rfl
             refine pure_ (i := 6) (N := some 86) (v := ?_) (a' := ?_) tm47 rfl rfl (zA HT_.out (by kernel_rfl)) (fun _ _ _ h => h) (Or.inl ⟨by rfl, ?_⟩) ?_ ?_
             rotate_left
             ·intro w'
              go_simp
              with_reducible rfl
             rotate_left
             ·simp only [Act.put, za, zc, zd, i64_w, i32_w]
              rfl
             refine pure_ (i := 7) (N := some 87) (v := ?_) (a' := ?_) tm48 rfl rfl (zA HT_.out (by kernel_rfl)) (fun _ _ _ h => h) (Or.inl ⟨by rfl, ?_⟩) ?_ ?_
             rotate_left
             ·intro w'
              go_simp
              with_reducible rfl
             rotate_left
             ·simp only [Act.put, za, zc, zd, i64_w, i32_w]
              rfl
             refine pure_ (i := 8) (N := some 88) (v := ?_) (a' := ?_) tm49 rfl rfl (zA HT_.out (by kernel_rfl)) (fun _ _ _ h => h) (Or.inl ⟨by rfl, ?_⟩) ?_ ?_
             rotate_left
             ·intro w'
              go_simp
              with_reducible rfl
             rotate_left
             ·simp only [Act.put, za, zc, zd, i64_w, i32_w]
              rfl
             refine take_ (i := 9) (N := some 89) (v := ?_) (a' := ?_) tm50 rfl rfl (take_ofW HT_.out HW_.out (by kernel_rfl)) (fun _ _ _ h => h) (Or.inl ⟨by rfl, ?_⟩) hHeld ?_ ?_
             rotate_left
             ·rintro w' ⟨s0, s1, s2, s3⟩
              go_simp
              with_reducible rfl
             rotate_left
             ·simp only [Act.put, za, zc, zd, i64_w, i32_w]
              rfl
             refine pure_ (i := 10) (N := some 90) (v := ?_) (a' := ?_) tm51 rfl rfl (zA HT_.out (by kernel_rfl)) (fun _ _ _ h => h) (Or.inl ⟨by rfl, ?_⟩) ?_ ?_
             rotate_left
             ·intro w'
              go_simp
              with_reducible rfl
             rotate_left
             ·simp only [Act.put, za, zc, zd, i64_w, i32_w]
              rfl
             refine pure_ (i := 11) (N := some 91) (v := ?_) (a' := ?_) tm52 rfl rfl (zA HT_.out (by kernel_rfl)) (fun _ _ _ h => h) (Or.inl ⟨by rfl, ?_⟩) ?_ ?_
             rotate_left
             ·intro w'
              go_simp
              with_reducible rfl
             rotate_left
             ·simp only [Act.put, za, zc, zd, i64_w, i32_w]
              rfl
             refine pure_ (i := 12) (N := some 92) (v := ?_) (a' := ?_) tm53 rfl rfl (zA HT_.out (by kernel_rfl)) (fun _ _ _ h => h) (Or.inl ⟨by rfl, ?_⟩) ?_ ?_
             rotate_left
             ·intro w'
              go_simp
              with_reducible rfl
             rotate_left
             ·simp only [Act.put, za, zc, zd, i64_w, i32_w]
              rfl
             refine pure_ (i := 13) (N := some 93) (v := ?_) (a' := ?_) tm54 rfl rfl (zA HT_.out (by kernel_rfl)) (fun _ _ _ h => h) (Or.inl ⟨by rfl, ?_⟩) ?_ ?_
             rotate_left
             ·intro w'
              go_simp
              with_reducible rfl
             rotate_left
             ·simp only [Act.put, za, zc, zd, i64_w, i32_w]
              rfl
             refine pure_ (i := 15) (N := some 95) (v := ?_) (a' := ?_) tm55 rfl rfl (zA HT_.out (by kernel_rfl)) (fun _ _ _ h => h) (Or.inl ⟨by rfl, ?_⟩) ?_ ?_
             rotate_left
             ·intro w'
              go_simp
              with_reducible rfl
             rotate_left
             ·simp only [Act.put, za, zc, zd, i64_w, i32_w]
              rfl
             refine pure_ (i := 18) (N := some 98) (v := ?_) (a' := ?_) tm56 rfl rfl (zA HT_.out (by kernel_rfl)) (fun _ _ _ h => h) (Or.inl ⟨by rfl, ?_⟩) ?_ ?_
             rotate_left
             ·intro w'
              go_simp
              with_reducible rfl
             rotate_left
             ·simp only [Act.put, za, zc, zd, i64_w, i32_w]
              rfl
             refine take_ (i := 14) (N := some 94) (v := ?_) (a' := ?_) tm57 rfl rfl (take_ofW HT_.out HW_.out (by kernel_rfl)) (fun _ _ _ h => h) (Or.inl ⟨by rfl, ?_⟩) hHeld ?_ ?_
             rotate_left
             ·rintro w' ⟨s0, s1, s2, s3⟩
              go_simp
              with_reducible rfl
             rotate_left
             ·simp only [Act.put, za, zc, zd, i64_w, i32_w]
              rfl
             refine take_ (i := 17) (N := some 97) (v := ?_) (a' := ?_) tm58 rfl rfl (take_ofW HT_.out HW_.out (by kernel_rfl)) (fun _ _ _ h => h) (Or.inl ⟨by rfl, ?_⟩) hHeld ?_ ?_
             rotate_left
             ·rintro w' ⟨s0, s1, s2, s3⟩
              go_simp
              with_reducible rfl
             rotate_left
             ·simp only [Act.put, za, zc, zd, i64_w, i32_w]
              rfl
             refine one_ (i := 16) (N := some 96) tm59 rfl rfl (one_of HT_.out (by kernel_rfl)) (by decide) (fun K hK => ?_)
             refine goes_ Try.func28 (by kernel_rfl) rfl #[.agg #[.int .i64 t426, .int .i64 t427], .slice Ao141 t428.length co141] (by rfl) rfl rfl (by (try simp only [zt, zB, zC]); first | done | rfl | (simp only [zv, zu]; rfl)) ?_
             with_reducible refine (impl_IsSigBy.calls k2 t426 t427 _ _ t428 t434 _ ?side1 ?side2 A64.out).mono ?_
             (case side1 => repeat (first | exact (zl HO430.out).2.2 | (with_reducible refine zz ?_ _) | (with_reducible refine zx ?_ _) | (with_reducible refine zy ?_)))
             (case side2 => exact (zl HO430.out).2.1)
             rintro e w142 ⟨rfl, hb⟩
             refine ⟨_, rfl, ?_⟩
             have n0_ := zb (zh (by (with_reducible repeat (first | apply zf | apply ze | apply zg)); exact HO_6.out) hb)
             have n1_ := zb (zh (by (with_reducible repeat (first | apply zf | apply ze | apply zg)); exact HO_393000.out) hb)
             have n2_ := zb (zh (by (with_reducible repeat (first | apply zf | apply ze | apply zg)); exact HO416.out) hb)
             have n3_ := zb (zh (by (with_reducible repeat (first | apply zf | apply ze | apply zg)); exact HO420.out) hb)
             have n4_ := zb (zh (by (with_reducible repeat (first | apply zf | apply ze | apply zg)); exact HO423.out) hb)
             have n5_ := zb (zh (by (with_reducible repeat (first | apply zf | apply ze | apply zg)); exact HO430.out) hb)
             have n6_ := zb (zs (g := gb392) (o := .cells #[.slice Ao9 t385.length co9, .int .i64 t388] 37 (0, 0)) (by (with_reducible repeat (first | refine zm ?_ _ | refine zn ?_ | refine zo ?_ _)); exact BK392.out) hb)
             have n7_ := zb (zs (g := gb424) (o := .cells #[.slice Ao127 t414.length co127, .int .i64 t417] 37 (0, 0)) (by (with_reducible repeat (first | refine zm ?_ _ | refine zn ?_ | refine zo ?_ _)); exact BK424.out) hb)
             have n8_ := zb (zs (g := gb431) (o := .cells #[.int .i64 t426, .int .i64 t427] 46 (0, 0)) (by (with_reducible repeat (first | refine zm ?_ _ | refine zn ?_ | refine zo ?_ _)); exact BK431.out) hb)
             have n9_ := zb (zD (by repeat (first | (with_reducible first | exact HB.out | apply zp | apply zi | apply zk | refine zj ?_ GE392.out | refine zj ?_ GE424.out | refine zj ?_ GE431.out) | exact HB.out)) hb)
             clear HO_6
             clear HO_393000
             clear HO416
             clear HO420
             clear HO423
             clear HO430
             clear BK392
             clear BK424
             clear BK431
             clear HB
             have HO_6 := n0_
             have HO_393000 := n1_
             have HO416 := n2_
             have HO420 := n3_
             have HO423 := n4_
             have HO430 := n5_
             have BK392 := n6_
             have BK424 := n7_
             have BK431 := n8_
             have HB := n9_
             clear n0_ n1_ n2_ n3_ n4_ n5_ n6_ n7_ n8_ n9_
             (try clear hb)
             (try clear hb2)
             (try clear hk)
             (try clear hi)
             refine hK.out _ _ ⟨(zq BK424.out 0).trans rfl, (zq BK424.out 1).trans rfl, (zq BK431.out 0).trans rfl, (zq BK431.out 1).trans rfl⟩ (fun hHeld => ?_)
             clear hK K
             refine norm_ (a' := ?_) ?_ ?_
             rotate_left
             ·show Act.put _ (some 96) _ = _
              simp only [Act.put, za, zc, zd, i64_w, i32_w]
              rfl
             refine one_ (i := 19) (N := some 99) tm60 rfl rfl (one_of HT_.out (by kernel_rfl)) (by decide) (fun K hK => ?_)
             refine goes_ Try.func29 (by kernel_rfl) rfl #[.agg #[.int .i64 t426, .int .i64 t427], .slice Ao141 t428.length co141] (by rfl) rfl rfl (by (try simp only [zt, zB, zC]); first | done | rfl | (simp only [zv, zu]; rfl)) ?_
             with_reducible refine (spec_IsSigBy.calls k2 t426 t427 _ _ t428 t435 _ ?side1 ?side2 A65.out).mono ?_
             (case side1 => repeat (first | exact (zl HO430.out).2.2 | (with_reducible refine zz ?_ _) | (with_reducible refine zx ?_ _) | (with_reducible refine zy ?_)))
             (case side2 => exact (zl HO430.out).2.1)
             rintro e w143 ⟨rfl, hb⟩
             refine ⟨_, rfl, ?_⟩
             have n0_ := zb (zh (by (with_reducible repeat (first | apply zf | apply ze | apply zg)); exact HO_6.out) hb)
             have n1_ := zb (zh (by (with_reducible repeat (first | apply zf | apply ze | apply zg)); exact HO_393000.out) hb)
             have n2_ := zb (zh (by (with_reducible repeat (first | apply zf | apply ze | apply zg)); exact HO416.out) hb)
             have n3_ := zb (zh (by (with_reducible repeat (first | apply zf | apply ze | apply zg)); exact HO420.out) hb)
             have n4_ := zb (zh (by (with_reducible repeat (first | apply zf | apply ze | apply zg)); exact HO423.out) hb)
             have n5_ := zb (zh (by (with_reducible repeat (first | apply zf | apply ze | apply zg)); exact HO430.out) hb)
             have n6_ := zb (zs (g := gb392) (o := .cells #[.slice Ao9 t385.length co9, .int .i64 t388] 37 (0, 0)) (by (with_reducible repeat (first | refine zm ?_ _ | refine zn ?_ | refine zo ?_ _)); exact BK392.out) hb)
             have n7_ := zb (zs (g := gb424) (o := .cells #[.slice Ao127 t414.length co127, .int .i64 t417] 37 (0, 0)) (by (with_reducible repeat (first | refine zm ?_ _ | refine zn ?_ | refine zo ?_ _)); exact BK424.out) hb)
             have n8_ := zb (zs (g := gb431) (o := .cells #[.int .i64 t426, .int .i64 t427] 46 (0, 0)) (by (with_reducible repeat (first | refine zm ?_ _ | refine zn ?_ | refine zo ?_ _)); exact BK431.out) hb)
             have n9_ := zb (zD (by repeat (first | (with_reducible first | exact HB.out | apply zp | apply zi | apply zk | refine zj ?_ GE392.out | refine zj ?_ GE424.out | refine zj ?_ GE431.out) | exact HB.out)) hb)
             clear HO_6
             clear HO_393000
             clear HO416
             clear HO420
             clear HO423
             clear HO430
             clear BK392
             clear BK424
             clear BK431
             clear HB
             have HO_6 := n0_
             have HO_393000 := n1_
             have HO416 := n2_
             have HO420 := n3_
             have HO423 := n4_
             have HO430 := n5_
             have BK392 := n6_
             have BK424 := n7_
             have BK431 := n8_
             have HB := n9_
             clear n0_ n1_ n2_ n3_ n4_ n5_ n6_ n7_ n8_ n9_
             (try clear hb)
             (try clear hb2)
             (try clear hk)
             (try clear hi)
             refine hK.out _ _ ⟨(zq BK424.out 0).trans rfl, (zq BK424.out 1).trans rfl, (zq BK431.out 0).trans rfl, (zq BK431.out 1).trans rfl⟩ (fun hHeld => ?_)
             clear hK K
             refine norm_ (a' := ?_) ?_ ?_
             rotate_left
             ·show Act.put _ (some 99) _ = _
              simp only [Act.put, za, zc, zd, i64_w, i32_w]
              rfl
             refine pure_ (i := 20) (N := some 100) (v := ?_) (a' := ?_) tm61 rfl rfl (zA HT_.out (by kernel_rfl)) (fun _ _ _ h => h) (Or.inl ⟨by rfl, ?_⟩) ?_ ?_
             rotate_left
             ·intro w'
              go_simp
              with_reducible rfl
             rotate_left
             ·simp only [Act.put, za, zc, zd, i64_w, i32_w]
              rfl
             refine pure_ (i := 21) (N := some 101) (v := ?_) (a' := ?_) tm62 rfl rfl (zA HT_.out (by kernel_rfl)) (fun _ _ _ h => h) (Or.inl ⟨by rfl, ?_⟩) ?_ ?_
             rotate_left
             ·intro w'
              go_simp
              with_reducible rfl
             rotate_left
             ·simp only [Act.put, za, zc, zd, i64_w, i32_w]
              rfl
             refine pure_ (i := 22) (N := some 102) (v := ?_) (a' := ?_) tm63 rfl rfl (zA HT_.out (by kernel_rfl)) (fun _ _ _ h => h) (Or.inl ⟨by rfl, ?_⟩) ?_ ?_
             rotate_left
             ·intro w'
              go_simp
              with_reducible rfl
             rotate_left
             ·simp only [Act.put, za, zc, zd, i64_w, i32_w]
              rfl
             refine pure_ (i := 23) (N := some 103) (v := ?_) (a' := ?_) tm64 rfl rfl (zA HT_.out (by kernel_rfl)) (fun _ _ _ h => h) (Or.inl ⟨by rfl, ?_⟩) ?_ ?_
             rotate_left
             ·intro w'
              go_simp
              with_reducible rfl
             rotate_left
             ·simp only [Act.put, za, zc, zd, i64_w, i32_w]
              rfl
             refine pure_ (i := 26) (N := some 106) (v := ?_) (a' := ?_) tm65 rfl rfl (zA HT_.out (by kernel_rfl)) (fun _ _ _ h => h) (Or.inl ⟨by rfl, ?_⟩) ?_ ?_
             rotate_left
             ·intro w'
              go_simp
              with_reducible rfl
             rotate_left
             ·simp only [Act.put, za, zc, zd, i64_w, i32_w]
              rfl
             refine pure_ (i := 27) (N := some 107) (v := ?_) (a' := ?_) tm66 rfl rfl (zA HT_.out (by kernel_rfl)) (fun _ _ _ h => h) (Or.inl ⟨by rfl, ?_⟩) ?_ ?_
             rotate_left
             ·intro w'
              go_simp
              with_reducible rfl
             rotate_left
             ·simp only [Act.put, za, zc, zd, i64_w, i32_w]
              rfl
             refine one_ (i := 24) (N := some 104) tm67 rfl rfl (one_of HT_.out (by kernel_rfl)) (by decide) (fun K hK => ?_)
             refine goes_ Try.func30 (by kernel_rfl) rfl #[.int .i64 t432] (by rfl) rfl rfl (by (try simp only [zt, zB, zC]); first | done | rfl | (simp only [zv, zu]; rfl)) ?_
             with_reducible refine (impl_OneKey.calls t432 t436 t439 _ A67.out).mono ?_
             rintro e w144 ⟨v437, rfl, ho0, hb⟩
             refine ⟨_, rfl, ?_⟩
             have n0_ := zb (zh (by (with_reducible repeat (first | apply zf | apply ze | apply zg)); exact HO_6.out) hb)
             have n1_ := zb (zE (by (with_reducible repeat (first | apply zf | apply ze | apply zg)); exact HO_393000.out) (zI ho0) hb)
             have n2_ := zb (zE (by (with_reducible repeat (first | apply zf | apply ze | apply zg)); exact HO416.out) (zI ho0) hb)
             have n3_ := zb (zE (by (with_reducible repeat (first | apply zf | apply ze | apply zg)); exact HO420.out) (zI ho0) hb)
             have n4_ := zb (zh (by (with_reducible repeat (first | apply zf | apply ze | apply zg)); exact HO423.out) hb)
             have n5_ := zb (zE (by (with_reducible repeat (first | apply zf | apply ze | apply zg)); exact HO430.out) (zI ho0) hb)
             have n6_ := zb (za31 (zH (zH (zH (zH ho0 (zJ (by (with_reducible repeat (first | apply zf | apply ze | apply zg)); exact HO_393000.out))) (zJ (by (with_reducible repeat (first | apply zf | apply ze | apply zg)); exact HO416.out))) (zJ (by (with_reducible repeat (first | apply zf | apply ze | apply zg)); exact HO420.out))) (zJ (by (with_reducible repeat (first | apply zf | apply ze | apply zg)); exact HO430.out))) (zG (by repeat (first | (with_reducible first | exact HB.out | apply zp | apply zi | apply zk | refine zj ?_ GE392.out | refine zj ?_ GE424.out | refine zj ?_ GE431.out) | exact HB.out))))
             have n7_ := zb (zs (g := gb392) (o := .cells #[.slice Ao9 t385.length co9, .int .i64 t388] 37 (0, 0)) (by (with_reducible repeat (first | refine zm ?_ _ | refine zn ?_ | refine zo ?_ _)); exact BK392.out) hb)
             have n8_ := zb (zs (g := gb424) (o := .cells #[.slice Ao127 t414.length co127, .int .i64 t417] 37 (0, 0)) (by (with_reducible repeat (first | refine zm ?_ _ | refine zn ?_ | refine zo ?_ _)); exact BK424.out) hb)
             have n9_ := zb (zs (g := gb431) (o := .cells #[.int .i64 t426, .int .i64 t427] 46 (0, 0)) (by (with_reducible repeat (first | refine zm ?_ _ | refine zn ?_ | refine zo ?_ _)); exact BK431.out) hb)
             have n10_ := zb (zD (by repeat (first | (with_reducible first | exact HB.out | apply zp | apply zi | apply zk | refine zj ?_ GE392.out | refine zj ?_ GE424.out | refine zj ?_ GE431.out) | exact HB.out)) hb)
             clear HO_6
             clear HO_393000
             clear HO416
             clear HO420
             clear HO423
             clear HO430
             clear BK392
             clear BK424
             clear BK431
             clear HB
             have HO_6 := n0_
             have HO_393000 := n1_
             have HO416 := n2_
             have HO420 := n3_
             have HO423 := n4_
             have HO430 := n5_
             have HO438 := n6_
             have BK392 := n7_
             have BK424 := n8_
             have BK431 := n9_
             have HB := n10_
             clear n0_ n1_ n2_ n3_ n4_ n5_ n6_ n7_ n8_ n9_ n10_
             (try clear hb)
             (try clear hb2)
             (try clear hk)
             (try clear hi)
             (try clear ho0)
             obtain ⟨Ao145, co145, eo145⟩ := Kd.R_slice HO438.out
             (first | subst eo145 | (injection eo145 with f1_ f2_ f3_; have f4_ := f1_.symm; have f5_ := f3_.symm; clear f1_ f2_ f3_; subst f4_; subst f5_))
             refine hK.out _ _ ⟨(zq BK424.out 0).trans rfl, (zq BK424.out 1).trans rfl, (zq BK431.out 0).trans rfl, (zq BK431.out 1).trans rfl⟩ (fun hHeld => ?_)
             clear hK K
             refine norm_ (a' := ?_) ?_ ?_
             rotate_left
             ·show Act.put _ (some 104) _ = _
              simp only [Act.put, za, zc, zd, i64_w, i32_w]
              rfl
             refine one_ (i := 25) (N := some 105) tm68 rfl rfl (one_of HT_.out (by kernel_rfl)) (by decide) (fun K hK => ?_)
             refine goes_ Try.func21 (by kernel_rfl) rfl #[.agg #[.slice Ao145 t436.length co145, .int .i64 t439]] (by rfl) rfl rfl (by (try simp only [zt, zB, zC]); first | done | rfl | (simp only [zv, zu]; rfl)) ?_
             with_reducible refine (impl_IsKeys.calls k2 _ _ t436 t439 t440 _ ?side1 ?side2 A68.out).mono ?_
             (case side1 => repeat (first | exact (zl HO438.out).2.2 | (with_reducible refine zz ?_ _) | (with_reducible refine zx ?_ _) | (with_reducible refine zy ?_)))
             (case side2 => exact (zl HO438.out).2.1)
             rintro e w146 ⟨rfl, hb⟩
             refine ⟨_, rfl, ?_⟩
             have n0_ := zb (zh (by (with_reducible repeat (first | apply zf | apply ze | apply zg)); exact HO_6.out) hb)
             have n1_ := zb (zh (by (with_reducible repeat (first | apply zf | apply ze | apply zg)); exact HO_393000.out) hb)
             have n2_ := zb (zh (by (with_reducible repeat (first | apply zf | apply ze | apply zg)); exact HO416.out) hb)
             have n3_ := zb (zh (by (with_reducible repeat (first | apply zf | apply ze | apply zg)); exact HO420.out) hb)
             have n4_ := zb (zh (by (with_reducible repeat (first | apply zf | apply ze | apply zg)); exact HO423.out) hb)
             have n5_ := zb (zh (by (with_reducible repeat (first | apply zf | apply ze | apply zg)); exact HO430.out) hb)
             have n6_ := zb (zh (by (with_reducible repeat (first | apply zf | apply ze | apply zg)); exact HO438.out) hb)
             have n7_ := zb (zs (g := gb392) (o := .cells #[.slice Ao9 t385.length co9, .int .i64 t388] 37 (0, 0)) (by (with_reducible repeat (first | refine zm ?_ _ | refine zn ?_ | refine zo ?_ _)); exact BK392.out) hb)
             have n8_ := zb (zs (g := gb424) (o := .cells #[.slice Ao127 t414.length co127, .int .i64 t417] 37 (0, 0)) (by (with_reducible repeat (first | refine zm ?_ _ | refine zn ?_ | refine zo ?_ _)); exact BK424.out) hb)
             have n9_ := zb (zs (g := gb431) (o := .cells #[.int .i64 t426, .int .i64 t427] 46 (0, 0)) (by (with_reducible repeat (first | refine zm ?_ _ | refine zn ?_ | refine zo ?_ _)); exact BK431.out) hb)
             have n10_ := zb (zD (by repeat (first | (with_reducible first | exact HB.out | apply zp | apply zi | apply zk | refine zj ?_ GE392.out | refine zj ?_ GE424.out | refine zj ?_ GE431.out) | exact HB.out)) hb)
             clear HO_6
             clear HO_393000
             clear HO416
             clear HO420
             clear HO423
             clear HO430
             clear HO438
             clear BK392
             clear BK424
             clear BK431
             clear HB
             have HO_6 := n0_
             have HO_393000 := n1_
             have HO416 := n2_
             have HO420 := n3_
             have HO423 := n4_
             have HO430 := n5_
             have HO438 := n6_
             have BK392 := n7_
             have BK424 := n8_
             have BK431 := n9_
             have HB := n10_
             clear n0_ n1_ n2_ n3_ n4_ n5_ n6_ n7_ n8_ n9_ n10_
             (try clear hb)
             (try clear hb2)
             (try clear hk)
             (try clear hi)
             refine hK.out _ _ ⟨(zq BK424.out 0).trans rfl, (zq BK424.out 1).trans rfl, (zq BK431.out 0).trans rfl, (zq BK431.out 1).trans rfl⟩ (fun hHeld => ?_)
             clear hK K
             refine norm_ (a' := ?_) ?_ ?_
             rotate_left
             ·show Act.put _ (some 105) _ = _
              simp only [Act.put, za, zc, zd, i64_w, i32_w]
              rfl
             refine pure_ (i := 28) (N := some 108) (v := ?_) (a' := ?_) tm69 rfl rfl (zA HT_.out (by kernel_rfl)) (fun _ _ _ h => h) (Or.inl ⟨by rfl, ?_⟩) ?_ ?_
             rotate_left
             ·intro w'
              go_simp
              with_reducible rfl
             rotate_left
             ·simp only [Act.put, za, zc, zd, i64_w, i32_w]
              rfl
             refine pure_ (i := 29) (N := some 109) (v := undef) (a' := ?_) tm70 rfl rfl (zA HT_.out (by kernel_rfl)) (fun _ _ _ h => h) (Or.inr ⟨by rfl, rfl⟩) ?_ ?_
             rotate_left
             ·simp only [Act.put, za, zc, zd, i64_w, i32_w]
              rfl
             refine pure_ (i := 30) (N := some 110) (v := undef) (a' := ?_) tm71 rfl rfl (zA HT_.out (by kernel_rfl)) (fun _ _ _ h => h) (Or.inr ⟨by rfl, rfl⟩) ?_ ?_
             rotate_left
             ·simp only [Act.put, za, zc, zd, i64_w, i32_w]
              rfl
             refine pure_ (i := 31) (N := some 111) (v := ?_) (a' := ?_) tm72 rfl rfl (zA HT_.out (by kernel_rfl)) (fun _ _ _ h => h) (Or.inl ⟨by rfl, ?_⟩) ?_ ?_
             rotate_left
             ·intro w'
              go_simp
              with_reducible rfl
             rotate_left
             ·simp only [Act.put, za, zc, zd, i64_w, i32_w]
              rfl
             refine pure_ (i := 32) (N := some 112) (v := ?_) (a' := ?_) tm73 rfl rfl (zA HT_.out (by kernel_rfl)) (fun _ _ _ h => h) (Or.inl ⟨by rfl, ?_⟩) ?_ ?_
             rotate_left
             ·intro w'
              go_simp
              with_reducible rfl
             rotate_left
             ·simp only [Act.put, za, zc, zd, i64_w, i32_w]
              rfl
             refine pure_ (i := 33) (N := some 113) (v := ?_) (a' := ?_) tm74 rfl rfl (zA HT_.out (by kernel_rfl)) (fun _ _ _ h => h) (Or.inl ⟨by rfl, ?_⟩) ?_ ?_
             rotate_left
             ·intro w'
              go_simp
              with_reducible rfl
             rotate_left
             ·simp only [Act.put, za, zc, zd, i64_w, i32_w]
              rfl
             refine pure_ (i := 34) (N := some 114) (v := ?_) (a' := ?_) tm75 rfl rfl (zA HT_.out (by kernel_rfl)) (fun _ _ _ h => h) (Or.inl ⟨by rfl, ?_⟩) ?_ ?_
             rotate_left
             ·intro w'
              go_simp
              with_reducible rfl
             rotate_left
             ·simp only [Act.put, za, zc, zd, i64_w, i32_w]
              rfl
             refine pure_ (i := 35) (N := some 115) (v := ?_) (a' := ?_) tm76 rfl rfl (zA HT_.out (by kernel_rfl)) (fun _ _ _ h => h) (Or.inl ⟨by rfl, ?_⟩) ?_ ?_
             rotate_left
             ·intro w'
              go_simp
              with_reducible rfl
             rotate_left
             ·simp only [Act.put, za, zc, zd, i64_w, i32_w]
              rfl
             refine pure_ (i := 37) (N := some 117) (v := ?_) (a' := ?_) tm77 rfl rfl (zA HT_.out (by kernel_rfl)) (fun _ _ _ h => h) (Or.inl ⟨by rfl, ?_⟩) ?_ ?_
             rotate_left
             ·intro w'
              go_simp
              with_reducible rfl
             rotate_left
             ·simp only [Act.put, za, zc, zd, i64_w, i32_w]
              rfl
             refine one_ (i := 36) (N := some 116) tm78 rfl rfl (one_of HT_.out (by kernel_rfl)) (by decide) (fun K hK => ?_)
             refine goes_ Try.func31 (by kernel_rfl) rfl #[.int .i64 3, .slice Ao130 t418.length co130] (by rfl) rfl rfl (by (try simp only [zt, zB, zC]); first | done | rfl | (simp only [zv, zu]; rfl)) ?_
             with_reducible refine (impl_TagOf.calls k2 3 _ _ t418 t443 _ ?side1 ?side2 A122.out).mono ?_
             (case side1 => repeat (first | exact (zl HO420.out).2.2 | (with_reducible refine zz ?_ _) | (with_reducible refine zx ?_ _) | (with_reducible refine zy ?_)))
             (case side2 => exact (zl HO420.out).2.1)
             rintro e w147 ⟨rfl, hb⟩
             refine ⟨_, rfl, ?_⟩
             have n0_ := zb (zh (by (with_reducible repeat (first | apply zf | apply ze | apply zg)); exact HO_6.out) hb)
             have n1_ := zb (zh (by (with_reducible repeat (first | apply zf | apply ze | apply zg)); exact HO_393000.out) hb)
             have n2_ := zb (zh (by (with_reducible repeat (first | apply zf | apply ze | apply zg)); exact HO416.out) hb)
             have n3_ := zb (zh (by (with_reducible repeat (first | apply zf | apply ze | apply zg)); exact HO420.out) hb)
             have n4_ := zb (zh (by (with_reducible repeat (first | apply zf | apply ze | apply zg)); exact HO423.out) hb)
             have n5_ := zb (zh (by (with_reducible repeat (first | apply zf | apply ze | apply zg)); exact HO430.out) hb)
             have n6_ := zb (zh (by (with_reducible repeat (first | apply zf | apply ze | apply zg)); exact HO438.out) hb)
             have n7_ := zb (zs (g := gb392) (o := .cells #[.slice Ao9 t385.length co9, .int .i64 t388] 37 (0, 0)) (by (with_reducible repeat (first | refine zm ?_ _ | refine zn ?_ | refine zo ?_ _)); exact BK392.out) hb)
             have n8_ := zb (zs (g := gb424) (o := .cells #[.slice Ao127 t414.length co127, .int .i64 t417] 37 (0, 0)) (by (with_reducible repeat (first | refine zm ?_ _ | refine zn ?_ | refine zo ?_ _)); exact BK424.out) hb)
             have n9_ := zb (zs (g := gb431) (o := .cells #[.int .i64 t426, .int .i64 t427] 46 (0, 0)) (by (with_reducible repeat (first | refine zm ?_ _ | refine zn ?_ | refine zo ?_ _)); exact BK431.out) hb)
             have n10_ := zb (zD (by repeat (first | (with_reducible first | exact HB.out | apply zp | apply zi | apply zk | refine zj ?_ GE392.out | refine zj ?_ GE424.out | refine zj ?_ GE431.out) | exact HB.out)) hb)
             clear HO_6
             clear HO_393000
             clear HO416
             clear HO420
             clear HO423
             clear HO430
             clear HO438
             clear BK392
             clear BK424
             clear BK431
             clear HB
             have HO_6 := n0_
             have HO_393000 := n1_
             have HO416 := n2_
             have HO420 := n3_
             have HO423 := n4_
             have HO430 := n5_
             have HO438 := n6_
             have BK392 := n7_
             have BK424 := n8_
             have BK431 := n9_
             have HB := n10_
             clear n0_ n1_ n2_ n3_ n4_ n5_ n6_ n7_ n8_ n9_ n10_
             (try clear hb)
             (try clear hb2)
             (try clear hk)
             (try clear hi)
             refine hK.out _ _ ⟨(zq BK424.out 0).trans rfl, (zq BK424.out 1).trans rfl, (zq BK431.out 0).trans rfl, (zq BK431.out 1).trans rfl⟩ (fun hHeld => ?_)
             clear hK K
             refine norm_ (a' := ?_) ?_ ?_
             rotate_left
             ·show Act.put _ (some 116) _ = _
              simp only [Act.put, za, zc, zd, i64_w, i32_w]
              rfl
             refine one_ (i := 38) (N := some 118) tm79 rfl rfl (one_of HT_.out (by kernel_rfl)) (by decide) (fun K hK => ?_)
             refine goes_ Try.func32 (by kernel_rfl) rfl #[.int .i64 3, .slice Ao130 t418.length co130] (by rfl) rfl rfl (by (try simp only [zt, zB, zC]); first | done | rfl | (simp only [zv, zu]; rfl)) ?_
             with_reducible refine (spec_TagOf.calls k2 3 _ _ t418 t444 _ ?side1 ?side2 A123.out).mono ?_
             (case side1 => repeat (first | exact (zl HO420.out).2.2 | (with_reducible refine zz ?_ _) | (with_reducible refine zx ?_ _) | (with_reducible refine zy ?_)))
             (case side2 => exact (zl HO420.out).2.1)
             rintro e w148 ⟨rfl, hb⟩
             refine ⟨_, rfl, ?_⟩
             have n0_ := zb (zh (by (with_reducible repeat (first | apply zf | apply ze | apply zg)); exact HO_6.out) hb)
             have n1_ := zb (zh (by (with_reducible repeat (first | apply zf | apply ze | apply zg)); exact HO_393000.out) hb)
             have n2_ := zb (zh (by (with_reducible repeat (first | apply zf | apply ze | apply zg)); exact HO416.out) hb)
             have n3_ := zb (zh (by (with_reducible repeat (first | apply zf | apply ze | apply zg)); exact HO420.out) hb)
             have n4_ := zb (zh (by (with_reducible repeat (first | apply zf | apply ze | apply zg)); exact HO423.out) hb)
             have n5_ := zb (zh (by (with_reducible repeat (first | apply zf | apply ze | apply zg)); exact HO430.out) hb)
             have n6_ := zb (zh (by (with_reducible repeat (first | apply zf | apply ze | apply zg)); exact HO438.out) hb)
             have n7_ := zb (zs (g := gb392) (o := .cells #[.slice Ao9 t385.length co9, .int .i64 t388] 37 (0, 0)) (by (with_reducible repeat (first | refine zm ?_ _ | refine zn ?_ | refine zo ?_ _)); exact BK392.out) hb)
             have n8_ := zb (zs (g := gb424) (o := .cells #[.slice Ao127 t414.length co127, .int .i64 t417] 37 (0, 0)) (by (with_reducible repeat (first | refine zm ?_ _ | refine zn ?_ | refine zo ?_ _)); exact BK424.out) hb)
             have n9_ := zb (zs (g := gb431) (o := .cells #[.int .i64 t426, .int .i64 t427] 46 (0, 0)) (by (with_reducible repeat (first | refine zm ?_ _ | refine zn ?_ | refine zo ?_ _)); exact BK431.out) hb)
             have n10_ := zb (zD (by repeat (first | (with_reducible first | exact HB.out | apply zp | apply zi | apply zk | refine zj ?_ GE392.out | refine zj ?_ GE424.out | refine zj ?_ GE431.out) | exact HB.out)) hb)
             clear HO_6
             clear HO_393000
             clear HO416
             clear HO420
             clear HO423
             clear HO430
             clear HO438
             clear BK392
             clear BK424
             clear BK431
             clear HB
             have HO_6 := n0_
             have HO_393000 := n1_
             have HO416 := n2_
             have HO420 := n3_
             have HO423 := n4_
             have HO430 := n5_
             have HO438 := n6_
             have BK392 := n7_
             have BK424 := n8_
             have BK431 := n9_
             have HB := n10_
             clear n0_ n1_ n2_ n3_ n4_ n5_ n6_ n7_ n8_ n9_ n10_
             (try clear hb)
             (try clear hb2)
             (try clear hk)
             (try clear hi)
             refine hK.out _ _ ⟨(zq BK424.out 0).trans rfl, (zq BK424.out 1).trans rfl, (zq BK431.out 0).trans rfl, (zq BK431.out 1).trans rfl⟩ (fun hHeld => ?_)
             clear hK K
             refine norm_ (a' := ?_) ?_ ?_
             rotate_left
             ·show Act.put _ (some 118) _ = _
              simp only [Act.put, za, zc, zd, i64_w, i32_w]
              rfl
             refine pure_ (i := 39) (N := some 119) (v := ?_) (a' := ?_) tm80 rfl rfl (zA HT_.out (by kernel_rfl)) (fun _ _ _ h => h) (Or.inl ⟨by rfl, ?_⟩) ?_ ?_
             rotate_left
             ·intro w'
              go_simp
              with_reducible rfl
             rotate_left
             ·simp only [Act.put, za, zc, zd, i64_w, i32_w]
              rfl
             refine pure_ (i := 40) (N := some 120) (v := ?_) (a' := ?_) tm81 rfl rfl (zA HT_.out (by kernel_rfl)) (fun _ _ _ h => h) (Or.inl ⟨by rfl, ?_⟩) ?_ ?_
             rotate_left
             ·intro w'
              go_simp
              with_reducible rfl
             rotate_left
             ·simp only [Act.put, za, zc, zd, i64_w, i32_w]
              rfl
             refine pure_ (i := 41) (N := some 2) (v := ?_) (a' := ?_) tm82 rfl rfl (zA HT_.out (by kernel_rfl)) (fun _ _ _ h => h) (Or.inl ⟨by rfl, ?_⟩) ?_ ?_
             rotate_left
             ·intro w'
              go_simp
              with_reducible rfl
             rotate_left
             ·simp only [Act.put, za, zc, zd, i64_w, i32_w]
              rfl
             refine done_ (done_of HT_.out (by kernel_rfl)) ?_
             try go_wp2
             go_ret
             exact ⟨by first | rfl | (simp [errW_none, errW_some] <;> rfl) | (simp [*, errW_none, errW_some] <;> rfl), by repeat (first | (with_reducible first | exact HB.out | apply zp | apply zi | apply zk | refine zj ?_ GE392.out | refine zj ?_ GE424.out | refine zj ?_ GE431.out) | exact HB.out)⟩
            ·rw [if_neg c121] at H
             have c121b0 : (t440 == false) = false := by simpa using c121
             (try (have c121b1 : decide (t440 = false) = false := by simpa using c121))
             (try (have c121b2 : (t440 == false) = false := by simpa using c121))
             (try (have c121b3 : ¬ (t440 = false) := by simpa using c121))
             clear c121
             exact absurd (za37 H) (by rw [hrt]; simp)
          ·rw [if_neg c66] at H
           have c66b0 : (t434 == t435) = false := by simpa using c66
           (try (have c66b1 : decide (t434 = t435) = false := by simpa using c66))
           (try (have c66b2 : (t434 == t435) = false := by simpa using c66))
           (try (have c66b3 : ¬ (t434 = t435) := by simpa using c66))
           clear c66
           exact absurd (za37 H) (by rw [hrt]; simp)
         ·rw [if_neg c63] at H
          have c63b0 : decide (t425 ≤ (t414.length : Int)) = false := za39 c63
          clear c63
          exact absurd (za37 H) (by rw [hrt]; simp)
        ·rw [if_neg c62] at H
         have c62b0 : (t425 == t433) = false := beq_eq_false_iff_ne.mpr c62
         have c62b1 : (t425 != t433) = true := bne_iff_ne.mpr c62
         exact absurd (za37 H) (by rw [hrt]; simp)
/-- THE ONE PURE STATEMENT of laws_FnThresholds: yours. -/
def laws_FnThresholds.Pure : Prop := ∀ (l0 : List Int), l0.length ≤ maxLen → l0.length * 1 ≤ 140737488351232 → (∀ x ∈ l0, (Lit.int .u8 x).wf = true) → ∃ k, laws_FnThresholds.f k l0 = some true
theorem laws_FnThresholds.walk (P : laws_FnThresholds.Pure) (a0 : Option Addr) (len0 cap0 : Nat) (z0 : List Int) (w : World) (w0 : (a0 = none ∧ len0 = 0 ∧ cap0 = 0 ∧ z0 = []) ∨ ∃ x, a0 = some x ∧ len0 ≤ cap0 ∧ cap0 ≤ maxLen ∧ z0.length = cap0 ∧ (∀ i, i < z0.length → w.cell? (x.add i) = some (.int .u8 (z0.getD i 0))) ∧ ∀ n ∈ z0, (Lit.int .u8 n).wf = true) (y0 : len0 * 1 ≤ 140737488351232) :
    Calls Try.prog 4 #[.slice a0 len0 cap0] w fun e w' => e = .returned (.bool true) ∧ Below w.heap.size w w' := by
  obtain ⟨l0, rfl, hr0, hm0, hw0, hc0⟩ := ReadsInt.ofRowC w0
  obtain ⟨k, h⟩ := P l0 hm0 y0 hw0
  refine (laws_FnThresholds.calls k _ _ l0 true w (Kd.C_of_reads (d := (0 : Int)) (h1 := fun _ => rfl) hr0) hc0 rfl h).mono ?_
  rintro e w' ⟨rfl, hd⟩
  exact ⟨rfl, hd⟩

end Go.Proofs.Ytanogkaledgecaa.PFnThresholds
